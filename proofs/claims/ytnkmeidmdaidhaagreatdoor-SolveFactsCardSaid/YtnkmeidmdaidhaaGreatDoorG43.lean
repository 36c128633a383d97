/- The solver: canonical variants may be; answers are ground and may be. No condition. -/
import Derived.Test.YtnkmeidmdaidhaaGreatDoorG41
import Derived.Test.YtnkmeidmdaidhaaGreatDoorG42
set_option linter.unusedSimpArgs false
set_option linter.unusedVariables false
set_option maxRecDepth 100000
set_option maxHeartbeats 0
noncomputable section
namespace Go.Am
variable {i:Nat} {a:ae}
def tl (n:Nat):aU:=⟨#[86]⟩++kN n
theorem zpR (n:Nat):j5 (tl n) 0=86:=by
 unfold tl kN j5
 rfl
theorem PW (n:Nat):(tl n).size=2:=rfl
theorem zyd {n m:Nat} (hn:n < 10) (hm:m < 10) (h:tl n=tl m):n=m:=by
 have h2:(tl n).data.toList=(tl m).data.toList:=by rw [h]
 unfold tl kN at h2
 simp only [ByteArray.data_append] at h2
 have h3:UInt8.ofNat (48+n)=UInt8.ofNat (48+m):=by simpa using h2
 have h4:=congrArg UInt8.toNat h3
 simp only [UInt8.toNat_ofNat'] at h4
 omega
theorem zpS {n:Nat} (hn:n < 10):qH (tl n):=by
 have h:n=0\/n=1\/n=2\/n=3\/n=4\/n=5\/n=6\/n=7\/n=8\/n=9:=by omega
 have mr:∀ i,i < 2->i=0\/i=1:=λi hi=>by omega
 refine ⟨by rw [PW];omega,by rw [PW];omega,by rw [zpR];omega,λi hi=>?_⟩
 rw [PW] at hi
 rcases mr i hi with rfl|rfl
 .rw [zpR];unfold jx;omega
 .have e:j5 (tl n) 1=((UInt8.ofNat (48+n)).toNat:Int):=rfl
  rw [e,UInt8.toNat_ofNat']
  unfold jx
  omega
theorem Hl (h:(a.arg i).v=true):lk a i=⟨true,tl (ie (a.arg i).s (cT a (i+1)))⟩:=by
 unfold lk
 rw [aD h]
 rfl
theorem PY (h:(a.arg i).v=false):lk a i=a.arg i:=by
 unfold lk
 rw [az (by rw [h];decide)]
theorem M5 (hi:i < 4) (h:(a.arg i).v=true):ie (a.arg i).s (cT a (i+1)) < 4:=by
 have h1:=YW (Yt h)
 have h2:=Ys a (i+1)
 omega
theorem Hz (a:ae) (hi:i < 4):(bB a).arg i=if i < a.bx then lk a i else a.arg i:=zw4 _ a hi
theorem PH (h:bg a):bg (bB a):=by
 refine ⟨h.says,h.pred,h.lo,h.hi,λi hi=>?_,λi hi h4=>?_⟩
 .have hi:(i:Int) < a.n:=hi
  have iK:i < 4:=by have:=h.hi;omega
  rw [Hz a iK,aD (bX.2 ⟨iK,hi⟩)]
  cases hv:(a.arg i).v
  .rw [PY hv];exact h.fx i hi
  .rw [Hl hv]
   unfold dh
   rw [aD rfl]
   exact zpS (by have:=M5 iK hv;omega)
 .have hi:a.n<=(i:Int):=hi
  rw [Hz a h4,az (λhc=>by have:=(bX.1 hc).2;omega)]
  exact h.rest i hi h4
def cW (d:ba):Prop:=∀ c∈d.calls,∀ a∈c.answers,bF a
theorem cW.of {d d':ba} (h:cW d) (g:∀ c∈d'.calls,∀ a∈c.answers,bF a\/∃ c0∈d.calls,a∈c0.answers):cW d':=λc hc a ha=>(g c hc a ha).elim id (λ⟨c0,h0,DW⟩=>h c0 h0 a DW)
theorem cW.add {d:ba} (h:cW d) (i:Nat) (a:ae):cW (bn d i a).1:=by
 refine h.of λc hc x hx=>?_
 unfold bn at hc
 split at hc
 .rename_i c0 kf
  split at hc
  .exact .inr ⟨c,hc,hx⟩
  .rename_i hn
   rcases yZ hc with hc|rfl
   .exact .inr ⟨c,hc,hx⟩
   .rcases gg.1 hx with hx|hx
    .exact .inr ⟨c0,en kf,hx⟩
    .rw [ep.1 hx]
     left
     refine ⟨?_,?_⟩
     .exact Classical.not_not.1 λhv=>hn (.inr (.inl hv))
     .cases he:bG [] c0.atom a with
      |none=>exact absurd (.inl (by rw [he];rfl)) hn
      |some m=>exact (Bh dZ he).2.2.2.1
 .exact .inr ⟨c,hc,hx⟩
theorem cW.answer {d:ba} (h:cW d) (i:Nat) (r:bc):cW (gA d i r):=by
 have h2:=h.add i r.atom
 unfold cW at h2 ⊢
 rw [(uq d i r).2.1]
 exact h2
theorem cW.open {d:ba} (h:cW d) (a:ae):cW (de d a).1:=by
 refine h.of λc hc x hx=>?_
 unfold de at hc
 split at hc
 .exact .inr ⟨c,hc,hx⟩
 split at hc
 .exact .inr ⟨c,hc,hx⟩
 .rcases gg.1 hc with hc|hc
  .exact .inr ⟨c,hc,hx⟩
  .rw [ep.1 hc] at hx;cases hx
theorem cW.i0 (i:Nat):∀ (l:aN) {d:ba},cW d->cW (j6 d i l)
 | [],d,h=>h
 |f::l,d,h=>cW.i0 i l (h.answer i ⟨f,-1,[]⟩)
theorem cW.dw {d:ba} (h:cW d) (i:Nat) (a:ae) (cs:List ak) (k:Nat):cW (fY d i a k cs):=by
 unfold cW
 rw [(ML i a cs k d).1]
 exact h
theorem cW.aW {d:ba} (h:cW d) (facts:aN) (cl:List ak) (a:ae):cW (aW facts cl d a).1:=by
 have ho:=h.open (bB a)
 unfold Am.aW
 split
 .exact cW.dw (cW.i0 _ _ ho) _ _ _ _
 .exact ho
theorem cW.wait {d:ba} (h:cW d) (i k:Nat):cW (i9 d i k):=by
 obtain ⟨_,_,_,_,_,_,_,_,k9⟩:=CQ d i k
 refine h.of λc hc x hx=>?_
 obtain ⟨c0,h0,e0⟩:=k9 c hc
 exact .inr ⟨c0,h0,e0 ▸ hx⟩
theorem cW.AV {d:ba} (h:cW d) (facts:aN) (cl:List ak) (k:Nat) (s:dy) (c:ak):cW (dE facts cl d k s c):=by
 unfold dE
 split
 .exact h
 .refine cW.wait ?_ _ _
  have h1:cW { d with ab:=d.ab.set k { s with next:=cN s.l ((c.body[s.taken]?).getD ah) } }:=h
  exact h1.aW facts cl _
theorem cW.gU {d:ba} (h:cW d) (facts:aN) (cl:List ak) (k:Nat):cW (gU facts cl d k):=by
 unfold Am.gU
 split
 .split
  .split
   .exact h.answer _ _
   .dsimp only
    split
    .unfold cW
     rw [(yN _ _ _).2.2]
     exact h.AV facts cl k _ _
    .exact h.AV facts cl k _ _
  .exact h
 .exact h
theorem zu9 (facts:aN) (cl:List ak) (b:Int) (goal:ae):cW (pz facts cl b goal):=cW.aW (d:=tf b) nofun facts cl (bB goal)
theorem zzI {facts:aN} {cl:List ak} {b:Int} {goal:ae} (h:bg goal):(aW facts cl (tf b) (bB goal)).2=0/\0 < (pz facts cl b goal).calls.length:=by
 obtain ⟨k1,k2,k3,k4⟩:=CT facts cl (tf b) (bB goal)
 have hv:=PH (PH h)
 have e:de (tf b) (bB (bB goal))=({ tf b with calls:=[⟨bB (bB (bB goal)),[],[]⟩] },0,true):=by
  unfold de
  rw [az (by simpa using hv),az (by simp [tf])]
  rfl
 unfold pz
 rw [k4,k3,e]
 exact ⟨rfl,Nat.zero_lt_one⟩
end Go.Am
namespace Go.Proofs.YtnkmeidmdaidhaaGreatDoor
open Go.Am Tryz
theorem zCA (wa va:Option Addr) (wn wc vn vc:Nat) (b:Int) (t m:Nat):lL aH 63 [(0,.slice wa wn wc),(1,.slice va vn vc),(2,.int .i64 b),(4,.pointer (some ⟨t,0,none⟩)),(8,.map (some m))]=some (.agg ⟨[.slice wa wn wc,.slice va vn vc,.int .i64 b,.int .i64 0,.pointer (some ⟨t,0,none⟩),.slice none 0 0,.slice none 0 0,.slice none 0 0,.map (some m)]⟩):=by kernel_rfl
theorem Nh {Z:Type} {r:aC Z} {h:Heap} {v:ai} {l:List Z} (f:Sl r h v l):∃ a n c,v=.slice a n c:=by
 rcases f with ⟨rfl,_⟩|⟨A,o,c,row,u,ro,rfl,_⟩ <;> exact ⟨_,_,_,rfl⟩
theorem zCx (wa va:Option Addr) (wn wc vn vc:Nat) (a b:Int):lL aH 40 [(0,.slice wa wn wc),(1,.int .i64 a),(2,.int .i64 b),(3,.slice va vn vc)]=some (.agg ⟨[.slice wa wn wc,.int .i64 a,.int .i64 b,.slice va vn vc]⟩):=by kernel_rfl
theorem Ny:lL aH 40 []=some (.agg ⟨[.slice none 0 0,.int .i64 0,.int .i64 0,.slice none 0 0]⟩):=by kernel_rfl
theorem Hu (a b c d x y z w:ai):aI [a,b,c,d] 0 [x,y,z,w]=[x,y,z,w]:=rfl
theorem zzD {h0 h hc:Heap} (z0:Ext h0 h) (z:Ext h hc) {E:List Nat} {y:cO} {cd vf:ai} {d:ba} (v:Am.Inv iD h E y cd vf d hc) (dD:bl 1 h) {cl:List ak} {facts:aN} (jt:Sl aC.clause h cd cl) (kS:Sl aC.atom h vf facts) (m9:cl.length<=1000) (lf:facts.length<=1000) (jN:∀ c∈cl,c.body.length<=90) {B:Nat} (JV:B<=50000) (wo:d.aE=(B:Int)) (hS:dW cl 1 d) (hN:dz 60000 60000 60001 d) (hA:cW d) (kf:0 < d.calls.length) {ci:Nat} (hid:ci=0) {R0:Nat} (q1:Holds h R0 (.row [.slice none 0 0,.int .i64 0,.int .i64 0,.slice none 0 0] 40 false)) (hR:h0.size<=R0) (K:aJ) {e:Env}
 (he:∃ J:Nat->ai,e=(jr J 0 8 (.pointer (some ⟨R0,0,none⟩)::J 9::.pointer (some ⟨y.pl .w,0,none⟩)::.int .i64 (ci:Int)::.int .i64 0::jr J 13 78 ([]))))
 (iJ:∀ d',dP facts cl 0 d d'->d'.aE < (d'.steps:Int)->∀ h',Ext h0 h'->K (.tuple #[.agg ⟨[.slice none 0 0,.int .i64 0,.int .i64 0,.slice none 0 0]⟩,.int .i64 14]) h')
 (DR:∀ d',dP facts cl 0 d d'->¬ d'.aE < (d'.steps:Int)->∀ c0,d'.calls[0]? = some c0->∀ h' w1 w2,Ext h0 h'->Sl aC.atom h' w1 (gW c0.answers)->Sl aC.reason h' w2 d'.aF->K (.tuple #[.agg ⟨[w1,.int .i64 (d'.steps:Int),.int .i64 (d'.calls.length:Int),w2]⟩,.int .i64 0]) h'):W prog aH ov none (ye 19).loop e (hc.lay [] hc.low) (xS 0 (Dm prog aH ov none (ye 29) (eI aH f14 K))):=by
 obtain ⟨J,rfl⟩:=he
 have cX:∀ (u:ai) (h:Heap) (K:aJ),aK (some u) h K=K u h:=λ_ _ _=>rfl
 have hz:=z.size
 have sS:=z0.size
 obtain ⟨hX,tQ⟩:∃ hX,hX=hc:=⟨_,rfl⟩
 have s0:eB 0 E E y y hX hc:=by rw [tQ];exact eB.refl _ _ _ _
 clear tQ
 obtain ⟨I1,aX⟩:∃ I:Nat->Env->Heap->Prop,I=(λn e h'=>∃ (i:Nat) (E2:List Nat) (y2:cO) (d2:ba) (h1:Heap),h'=h1.lay [] h1.low/\Ext h h1/\(n=10000000000001 - i/\i<=d2.queue.length/\d2.aE=(B:Int)/\dW cl 1 d2/\dz 60000 60000 60001 d2/\cW d2/\0 < d2.calls.length/\(∀ d',dP facts cl i d2 d'->dP facts cl 0 d d')/\Am.Inv iD h E2 y2 cd vf d2 h1/\eB 0 E E2 y y2 hX h1)/\∃ J:Nat->ai,e=(jr J 0 8 (.pointer (some ⟨R0,0,none⟩)::J 9::.pointer (some ⟨y.pl .w,0,none⟩)::.int .i64 (ci:Int)::.int .i64 (i:Int)::jr J 13 78 ([])))):=⟨_,rfl⟩
 refine dN I1 _ (by rw [aX];exact ⟨0,E,y,d,_,rfl,z,⟨rfl,iN _,wo,hS,hN,hA,kf,λ_=>id,v,s0⟩,bo⟩) ?_
 intro n e h' aP
 rw [aX] at aP
 obtain ⟨i,E2,y2,d2,bU,rfl,z,hinv,J,rfl⟩:=aP
 clear wo hS hN hA kf v s0
 obtain ⟨rfl,hi,wo,hS,hN,hA,kf,hRn,v2,s2⟩:=hinv
 have gz:qP d2:=hN.Jg (by omega) (by omega) (by omega)
 have G3:=gz.queue
 have jB:=eE i (by omega)
 simp only [cm,seval]
 rw [uk (ye 19) (ye 20) (ye 25) rfl,uk (ye 20) (ye 21) (ye 22) rfl]
 obtain ⟨R2,T3⟩:∃ R:Env->Heap->Prop,R=(λe h'=>∃ (h1:Heap),h'=h1.lay [] h1.low/\Ext h h1/\(Am.Inv iD h E2 y2 cd vf d2 h1/\eB 0 E E2 y y2 hX h1)/\∃ J:Nat->ai,e=(jr J 0 8 (.pointer (some ⟨R0,0,none⟩)::J 9::.pointer (some ⟨y.pl .w,0,none⟩)::.int .i64 (ci:Int)::.int .i64 (i:Int)::jr J 13 78 ([])))/\∃ b:Bool,J 55=.bool b/\(b=true↔i < d2.queue.length/\¬ d2.aE < (d2.steps:Int))):=⟨_,rfl⟩
 refine Q2 R2 ?cut ?rest
 case' rest =>
  intro e h' aP
  rw [T3] at aP
  obtain ⟨dc,rfl,z,hinv,J,rfl,b,hJ,lV⟩:=aP
 case cut =>
  have qw:=iF v2
  rw [s2.w] at qw
  have oq:dx aC.nat h bU 3 (y2.pl .qa) (y2.vl .qa) d2.queue:=v2.dF .qa
  have hlq:=λ(hh:Heap)=>(oq.sl (by decide)).bQ kb hh
  simp only [aa,seval,iR,qw.lay,cX,hlq]
  have g:=aS.refl [] bU
  by_cases aT:(i:Int) < (d2.queue.length:Int)
  .rw [sk aT]
   simp only [aa,seval,iR]
   rw [<- s2.w]
   refine Y9 (v2.bf (g.trans (aS.lay _ _ _ []) (by simp))) _ (λh' x=>?_)
   (replace z:=z.ao x;replace g:=g.over x;rw [aw h'])
   rw [s2.w]
   repeat' (first|simp only [aa,seval,iR,cX]|((with_reducible apply cf);(· rfl)))
   (rw [T3];exact ⟨_,rfl,z,⟨v2.bf g,s2.bf g⟩,Gq (by kernel_rfl) (⟨_,rfl,by rw [zi,decide_eq_false_iff_not];exact ⟨λhh=>⟨by omega,hh⟩,λhh=>hh.2⟩⟩)⟩)
  .rw [tn aT]
   repeat' (simp only [aa,seval,iR])
   (rw [T3];exact ⟨_,rfl,z,⟨v2.bf g,s2.bf g⟩,Gq (by kernel_rfl) (⟨_,rfl,nofun,λhh=>absurd hh.1 (by omega)⟩)⟩)
 case rest =>
 obtain ⟨v3,s3⟩:=hinv
 clear v2 s2
 have qw:=iF v3
 rw [s3.w] at qw
 have lg:=z.size
 cases b
 .have lD:dP facts cl 0 d d2:=by
   refine hRn _ ?_
   by_cases jP:d2.aE < (d2.steps:Int)
   .exact .over jP
   .exact .done jP (by have hb:=λhh=>Bool.false_ne_true (lV.2 hh);exact Nat.le_of_not_lt λhh=>hb ⟨hh,jP⟩)
  have uj:=q1.mono z.inc
  have hRl:=q1.lt
  replace z:=z0.trans z
  have xj:=z.size
  have g:=aS.refl [] dc
  simp only [aa,seval,iR,hJ]
  rw [<- s3.w]
  refine Y9 (v3.bf (g.trans (aS.lay _ _ _ []) (by simp))) _ (λh' x=>?_)
  (replace z:=z.ao x;replace g:=g.over x;replace qw:=qw.over x;replace uj:=uj.over x;rw [aw h'])
  rw [s3.w]
  by_cases jP:d2.aE < (d2.steps:Int)
  .rw [sk jP]
   simp only [aa,seval,iR,Ny,cX]
   refine j4 (n:=4) (o:=0) (vs:=[.slice none 0 0,.int .i64 0,.int .i64 0,.slice none 0 0]) uj py rfl rfl (by show 0+4<=4;omega) rfl (λh2 q2 c2=>?_)
   rw [Hu] at q2
   have z2:=(z.jC [] h'.low (by omega)).step c2 hR
   rw [aw h2]
   repeat' (simp only [aa,seval,iR,q2.lay])
   exact iJ _ lD jP _ z2.av
  rw [tn jP]
  obtain ⟨c0,D1⟩:=oF (show ci < d2.calls.length by omega)
  replace DR:=DR _ lD jP c0 (hid ▸ D1)
  have Ka:=en D1
  have han:=hN.mY _ Ka
  have cZ:=hN.steps
  have EH:=v3.aF
  obtain ⟨ra,rn,rc,Vn⟩:=Nh EH
  rw [Vn] at EH qw
  simp only [aa,seval,iR]
  with_reducible first|refine ez (by simp only [iR]) z.av ?_
  simp only [aa,seval,iR,qw.lay,cX]
  refine zlC ((v3.bf g).bf (aS.lay _ _ _ _)) D1 (by have:=gz.calls;omega) (by omega) _ (λh' w A x om=>?_)
  have sw:Sl aC.atom h' w c0.answers:=om.sl (by decide)
  (((with_reducible refine ix ?_ ?_ ?_);(· exact (by (simp only [iY]);have:=z.size;omega));(· exact x));replace z:=z.ao x;replace g:=g.over x;replace qw:=qw.over x;replace uj:=uj.over x;rw [aw h'])
  simp only [aa,seval,iR]
  refine zpf c0.answers w _ (sw.lay _ _) (by omega) (λa ha=>(hA c0 Ka a ha).valid.bW) _ (λh' w1 x os=>?_)
  (((with_reducible refine ix ?_ ?_ ?_);(· exact (by (simp only [iY]);have:=z.size;omega));(· exact x));replace z:=z.ao x;replace g:=g.over x;replace qw:=qw.over x;replace uj:=uj.over x;rw [aw h'])
  have s1:Sl aC.atom h' w1 (gW c0.answers):=os.sl
  obtain ⟨wa,wn,wc,rfl⟩:=Nh s1
  have g1:=aS.refl [] h'
  simp only [aa,seval,iR,cX,qw.lay]
  refine zC3 ((v3.bf g).bf (aS.lay _ _ _ _)) _ (λh' x=>?_)
  (((with_reducible refine ix ?_ ?_ ?_);(· exact (by (simp only [iY]);have:=z.size;omega));(· exact x));replace z:=z.ao x;replace g:=g.over x;replace qw:=qw.over x;replace uj:=uj.over x;replace g1:=g1.over x;rw [aw h'])
  simp only [aa,seval,iR,cX,qw.lay,zCx]
  refine j4 (n:=4) (o:=0) (vs:=[.slice wa wn wc,.int .i64 (d2.steps:Int),.int .i64 (d2.calls.length:Int),.slice ra rn rc]) uj py rfl rfl (by show 0+4<=4;omega) rfl (λh8 q8 kB=>?_)
  rw [Hu] at q8
  refine iL (A:=R0) (by kernel_rfl) (by have:=z.size;rw [bh];omega) (by omega) kB ?_
  have sat:∀ {v:ai} {l:aN},Sl aC.atom (h'.lay [] (h'.size+0)) v l->Sl aC.atom h8 v l:=λf=>f.small (uj.on [] _) (by show 4 < 11;omega) kB q8 (λ_ _ hh=>hh)
  have s18:=sat ((s1.mono g1.all).lay [] (h'.size+0))
  have s28:Sl aC.reason h8 (.slice ra rn rc) d2.aF:=((EH.mono g.all).lay [] (h'.size+0)).small (uj.on [] _) (by show 4 < 13;omega) kB q8 (λcs x ⟨b,e1,e2⟩=>⟨b,e1,sat e2⟩)
  have z8:=z.bV kB hR (by omega)
  clear z g g1 qw uj
  have z:=z8
  have g:=aS.refl [] h8
  rw [aw h8]
  simp only [aa,seval,iR]
  ((with_reducible refine ⟨z.cU.lay _ _,?_⟩);(intro _ h' zz x _);(simp only [bY,bC] at x);replace g:=g.over x;replace q8:=q8.over x;(replace z:=zz);(clear zz);rw [aw h'])
  repeat' (simp only [aa,seval,iR,q8.lay])
  exact DR _ _ _ z.av ((s18.mono g.all).lay _ _) ((s28.mono g.all).lay _ _)
 obtain ⟨aT,jP⟩:=lV.1 rfl
 obtain ⟨k,hk⟩:=oF aT
 have jY:=hS.q k (en hk)
 have OU:=QZ (facts:=facts) hS hN wo JV jP lf m9 jN jY
 obtain ⟨sD,jD,cD,a1,a2,a3,a4,a5,a6,a7,a8,a9,zr⟩:=OU.ask
 have oq:dx aC.nat h dc 3 (y2.pl .qa) (y2.vl .qa) d2.queue:=v3.dF .qa
 have hsq:Sl aC.nat dc (y2.vl .qa) d2.queue:=oq.sl (by decide)
 have hr:d2.queue[(i:Int).toNat]? = some k:=by rw [uK];exact hk
 repeat' (first|simp only [aa,seval,iR,hJ,qw.lay,cX]|with_reducible refine zAt hsq kb AX (by omega) hr (λp hp=>?_)|with_reducible refine qJ hp Rk ?_)
 rw [<- s3.w]
 refine zEe dD z.av (v3.bf (aS.lay _ _ _ _)) jt kS m9 lf a1 a2 a3 (by have:=jN cD (en a3);omega) a4 a5 a6 a7 a8 a9 zr _ (λh5 E5 y5 u5 z5 v5 s5=>?_)
 rw [s3.w]
 have s6:=(s3.bf (aS.lay dc [] dc.low [])).trans s5 (iN _)
 rw [aw h5]
 clear qw
 have z:=z5
 repeat' (simp only [aa,seval,iR])
 rw [jB]
 (rw [aX];with_reducible refine cF (m:=_) ?_ ⟨i+1,E5,y5,gU facts cl d2 k,_,rfl,z,⟨rfl,eA aT (zyN facts cl d2 k),OU.aE.trans wo,OU.str,OU.num,hA.gU facts cl k,dr kf (zyL facts cl d2 k),λd' r=>hRn d' (.step jP hk r),v5,s6⟩,bo⟩;omega)
theorem zC4 (cl:List ak) (facts:aN) (goal:ae) (B:Int) (v u:ai) (h:Heap) (dD:bl 1 h) (hl:Sl aC.clause h v cl) (hf:Sl aC.atom h u facts) (hn:cl.length<=1000) (jN:∀ c∈cl,c.body.length<=90) (lf:facts.length<=900) (hB:B<=50000\/1048576 < B) (K:aJ)
 (jL:¬ (du cl facts/\bg goal/\0<=B/\B<=1048576)->∀ h',Ext h h'->K (.tuple #[.agg ⟨[.slice none 0 0,.int .i64 0,.int .i64 0,.slice none 0 0]⟩,.int .i64 2]) h')
 (iJ:du cl facts->bg goal->0<=B->B<=50000->∀ d',dP (gW facts) (cl.map ei) 0 (pz (gW facts) (cl.map ei) B goal) d'->d'.aE < (d'.steps:Int)->∀ h',Ext h h'->K (.tuple #[.agg ⟨[.slice none 0 0,.int .i64 0,.int .i64 0,.slice none 0 0]⟩,.int .i64 14]) h')
 (DR:du cl facts->bg goal->0<=B->B<=50000->∀ d',dP (gW facts) (cl.map ei) 0 (pz (gW facts) (cl.map ei) B goal) d'->¬ d'.aE < (d'.steps:Int)->∀ c0,d'.calls[0]? = some c0->∀ h' w1 w2,Ext h h'->Sl aC.atom h' w1 (gW c0.answers)->Sl aC.reason h' w2 d'.aF->K (.tuple #[.agg ⟨[w1,.int .i64 (d'.steps:Int),.int .i64 (d'.calls.length:Int),w2]⟩,.int .i64 0]) h'):Ok prog aH ov 14 [v,u,goal.val,.int .i64 B] h K:=by
 rw [aw h]
 have z:=Ext.refl h
 have cX:∀ (u:ai) (h:Heap) (K:aJ),aK (some u) h K=K u h:=λ_ _ _=>rfl
 refine Ok.aA 87 (bH ye) ?_
 simp only [aa,seval,iR,gV]
 refine zBL cl facts v u _ (dD.lay _ _) (hl.lay _ _) (hf.lay _ _) hn (λc hc=>by have:=jN c hc;omega) (by omega) _ (λhm h' x=>?_) (λhm h' x=>?_)
 rotate_left
 .have q1:=Holds.top (i:=1) x rfl
  (replace z:=z.ao x;rw [aw h'])
  replace jL:=jL (λe=>hm e.1)
  repeat' (first|simp only [aa,seval,iR]|((with_reducible apply cf);(· rfl)))
  simp only [aa,seval,iR,Ny,cX]
  refine j4 (n:=4) (o:=0) (vs:=[.slice none 0 0,.int .i64 0,.int .i64 0,.slice none 0 0]) q1 py rfl rfl (by show 0+4<=4;omega) rfl (λh2 q2 c2=>?_)
  rw [Hu] at q2
  have z2:=(z.jC [] h'.low (by omega)).step c2 (by omega)
  rw [aw h2]
  repeat' (simp only [aa,seval,iR,q2.lay])
  exact jL _ z2.av
 have q0:=Holds.top (i:=0) x rfl
 have q1:=Holds.top (i:=1) x rfl
 (replace z:=z.ao x;rw [aw h'])
 repeat' (first|simp only [aa,seval,iR,q0.lay,↓fe,dU,dq]|((with_reducible apply cf);(· rfl)))
 refine Na goal _ ((dD.ext z).lay _ _) _ (λhv h' x=>?_) (λhv c h' hc x=>?_)
 rotate_left
 ·(replace z:=z.ao x;( replace q0:=q0.over x );( replace q1:=q1.over x );rw [aw h'])
  repeat' (first|simp only [aa,seval,iR]|((with_reducible first|apply bS|apply qM) <;> intro _))
  all_goals try (exfalso;omega)
  simp only [aa,seval,iR,Ny,cX]
  refine j4 (n:=4) (o:=0) (vs:=[.slice none 0 0,.int .i64 0,.int .i64 0,.slice none 0 0]) q1 py rfl rfl (by show 0+4<=4;omega) rfl (λh2 q2 c2=>?_)
  rw [Hu] at q2
  have z2:=(z.jC [] h'.low (by omega)).step c2 (by omega)
  rw [aw h2]
  repeat' (simp only [aa,seval,iR,q2.lay])
  exact jL (λe=>hv e.2.1) _ z2.av
 (replace z:=z.ao x;replace q0:=q0.over x;replace q1:=q1.over x;rw [aw h'])
 repeat' (first|simp only [aa,seval,iR]|((with_reducible apply bS) <;> intro _))
 .simp only [aa,seval,iR,Ny,cX]
  refine j4 (n:=4) (o:=0) (vs:=[.slice none 0 0,.int .i64 0,.int .i64 0,.slice none 0 0]) q1 py rfl rfl (by show 0+4<=4;omega) rfl (λh2 q2 c2=>?_)
  rw [Hu] at q2
  have z2:=(z.jC [] h'.low (by omega)).step c2 (by omega)
  rw [aw h2]
  repeat' (simp only [aa,seval,iR,q2.lay])
  exact jL (λe=>by omega) _ z2.av
 .simp only [aa,seval,iR,Ny,cX]
  refine j4 (n:=4) (o:=0) (vs:=[.slice none 0 0,.int .i64 0,.int .i64 0,.slice none 0 0]) q1 py rfl rfl (by show 0+4<=4;omega) rfl (λh2 q2 c2=>?_)
  rw [Hu] at q2
  have z2:=(z.jC [] h'.low (by omega)).step c2 (by omega)
  rw [aw h2]
  repeat' (simp only [aa,seval,iR,q2.lay])
  exact jL (λe=>by omega) _ z2.av
 clear jL
 have pG:0<=B:=by omega
 have JV:B<=50000:=by omega
 replace iJ:=iJ hm hv pG JV
 replace DR:=DR hm hv pG JV
 refine zuK cl v _ ((hl.mono z.inc).lay _ _) hn (λc hc=>⟨by have:=jN c hc;omega,(hm.clauses c hc).head.bW,λb hb=>((hm.clauses c hc).body b hb).bW⟩) _ (λwr Ar h' x Wp=>?_)
 (replace z:=z.ao x;replace q0:=q0.over x;replace q1:=q1.over x;rw [aw h'])
 have slr:Sl aC.clause (h'.lay [] h'.low) wr (cl.map ei):=(Wp.sl (by decide)).lay _ _
 obtain ⟨wa,wn,wc,rfl⟩:=Wp.slice
 have gr:=aS.refl [] h'
 simp only [aa,seval,iR]
 refine zpf facts u _ ((hf.mono z.inc).lay _ _) (by omega) (λa ha=>(hm.facts a ha).valid.bW) _ (λh' wf x owf=>?_)
 (replace z:=z.ao x;replace q0:=q0.over x;replace q1:=q1.over x;replace gr:=gr.over x;rw [aw h'])
 have yE:Sl aC.atom (h'.lay [] h'.low) wf (gW facts):=owf.sl.lay _ _
 obtain ⟨va,vn,vc,rfl⟩:=Nh yE
 have gf:=aS.refl [] h'
 simp only [aa,seval,iR]
 have base:∃ hb,hb.size=h'.size/\Ext h hb/\Sl aC.clause hb (.slice wa wn wc) (cl.map ei)/\Sl aC.atom hb (.slice va vn vc) (gW facts)/\bl 1 hb/\Holds hb (h.size+1) (.row [.slice none 0 0,.int .i64 0,.int .i64 0,.slice none 0 0] 40 false)/\Ext hb (h'.lay [] h'.low) :=
  ⟨h',rfl,z,(Wp.sl (by decide)).mono gr.all,owf.sl.mono gf.all,dD.ext z,q1,(Ext.refl h').jC [] h'.low (by omega)⟩
 obtain ⟨hb,b1,b2,b3,b4,b5,b6,b7⟩:=base
 have Vi:=q1.lt
 refine zzi _ _ (λh' T0 PM x qt mp ht1 uT htp=>?_)
 have zb:=b7.trans x
 simp only [bh,db,gx] at ht1 uT
 (replace z:=z.ao x;replace q0:=q0.over x;replace q1:=q1.over x;replace gr:=gr.over x;replace gf:=gf.over x;rw [aw h'])
 have gt:=aS.refl [] h'
 have hzb:=zb.size
 repeat' (simp only [aa,seval,iR,cX,MZ,zCA,dU,q0.lay,↓fe,dU])
 have T8:=qt.lt
 have T2:=mp.lt
 obtain ⟨hN,O0⟩:∃ hN,hN=h':=⟨_,rfl⟩
 refine Qs goal _ _ (λh' x=>?_)
 replace zb:=zb.trans ((Ext.refl _).CA x (by omega))
 (replace z:=z.ao x;replace q0:=q0.over x;replace q1:=q1.over x;replace gt:=gt.over x;replace qt:=qt.over x;replace mp:=mp.over x;rw [aw h'])
 have qk:=Holds.top (i:=0) x rfl
 have qw:=Holds.top (i:=1) x rfl
 rw [<- O0] at qk qw hzb
 rw [<- O0]
 have alc:=qt.lt
 have akR:=mp.lt
 have hTN:T0 < hN.size/\PM < hN.size:=by rw [O0];exact ⟨T8,T2⟩
 obtain ⟨W0,hW0⟩:∃ W0,W0=hN.size+1:=⟨_,rfl⟩
 obtain ⟨y0,La⟩:∃ y0,y0=AK W0 T0 PM (hN.size+0):=⟨_,rfl⟩
 have v0:Am.Inv iD hb [W0,T0,PM,hN.size+0] y0 (.slice wa wn wc) (.slice va vn vc) (tf B) h':=by
  rw [La]
  rw [<- hW0] at qw
  exact Inv.first qw qt mp (fh.new qk) ⟨by omega,by omega,by omega,by omega⟩ ⟨by omega,by omega,by omega,htp,by omega,by omega⟩
 have hyw:y0.pl .w=W0:=by rw [La];rfl
 have cZ:=YK (gW facts) (cl.map ei) B goal (eA (He facts) (by omega)) (by rw [gw];exact hn)
 obtain ⟨st1,st2,Ha,LB,st5⟩:=cZ
 obtain ⟨id1,id2⟩:=zzI (facts:=gW facts) (cl:=cl.map ei) (b:=B) hv
 rw [<- hW0,<- hyw]
 clear qk qw O0
 have AF:=zb.size
 repeat' (simp only [aa,seval,iR])
 refine zsI b5 zb.av (v0.bf (aS.lay _ _ _ _)) b3 b4 (by rw [gw];exact hn) (eA (He facts) (by omega)) (bB goal) (iN _) LB st5 _ (λh7 E7 y7 z7 v7 s7=>?_)
 rw [id1]
 rw [aw h7]
 repeat' (simp only [aa,seval,iR])
 have v8:Am.Inv iD hb E7 y7 (.slice wa wn wc) (.slice va vn vc) (pz (gW facts) (cl.map ei) B goal) h7:=v7
 refine zzD b2 z7 v8 b5 b3 b4 (by rw [gw];exact hn) (eA (He facts) (by omega)) (λc hc=>?_) (B:=B.toNat) (by omega) (by rw [Ha];omega) st1 st2 (zu9 _ _ _ _) id2 (ci:=0) rfl b6 (by omega) K (by rw [s7.w];exact Fa (by kernel_rfl)) iJ DR
 obtain ⟨c0,h0,rfl⟩:=pC.1 hc
 show (c0.body.map fN).length<=90
 rw [gw]
 exact jN c0 h0
def N16:=bI f16
def WQ:=PLift.up (by have c:=bM N16 f16;simp only [aO,f16,seval] at c;exact nd c <| nd @vH <| nd @NS <| nd @iX <| nd @cq <| nd @ij <| @R4)
def N18:=bI f18
def WU:=PLift.up (by have c:=bM N18 f18;simp only [aO,f18,seval] at c;exact nd c <| nd @NS <| nd @QO <| nd @Zn <| nd @zAl <| nd @iX <| nd @ng <| nd @AL <| @R9)
def N19:=bI f19
def WV:=PLift.up (by have c:=bM N19 f19;simp only [aO,f19,seval] at c;exact nd c <| nd @Je <| nd @NS <| nd @QO <| nd @Zn <| nd @zAl <| nd @zAo <| nd @zCO <| nd @zAp <| nd @V9 <| nd @iX <| nd @cq <| nd @ng <| nd @AL <| nd @Fe <| nd @Wh <| @Sa)
def N5:=bI f5
def x5:=PLift.up (by have c:=bM N5 f5;simp only [aO,f5,seval] at c;exact nd c <| nd @vH <| nd @QO <| nd @cq <| nd @ng <| nd @Le <| @fi5)
theorem c5:type_of% x5.down:=x5.down
def N4:=bI f4
def x4:=PLift.up (by have c:=bM N4 f4;simp only [aO,f4,seval] at c;exact nd c <| nd @vH <| nd @NS <| nd @ig <| nd @iX <| nd @cq <| nd @ij <| @fi4)
theorem c4:type_of% x4.down:=x4.down
def N3:=bI f3
def x3:=PLift.up (by have c:=bM N3 f3;simp only [aO,f3,seval] at c;exact nd c <| nd @kH <| nd @vH <| nd @Dx <| nd @rB <| nd @Bu <| nd @vd <| nd @ve <| nd @NS <| nd @QO <| nd @Zn <| nd @pj <| nd @ig <| nd @xm <| nd @iX <| nd @cq <| nd @ng <| nd @kp <| nd @rR <| nd @ij <| nd @xp <| nd @Lj <| @fi3)
theorem c3:type_of% x3.down:=x3.down
def Zx:=bI f10
def LH:=PLift.up (by have c:=bM Zx f10;simp only [aO,f10,seval] at c;exact nd c <| nd @kH <| nd @uE <| nd @mJ <| nd @cq <| @RW)
theorem BN:type_of% LH.down:=LH.down
def ZA:=bI f13
def Me:=PLift.up (by have c:=bM ZA f13;simp only [aO,f13,seval] at c;exact nd c <| nd @kH <| nd @uE <| nd @mJ <| nd @cq <| @RZ)
theorem c13:type_of% Me.down:=Me.down
def gM (s p:aU) (t:ay):ae:=⟨s,p,1,t,bD,bD,bD⟩
theorem zvV (s p:aU):lL aH 28 [(0,.string s),(1,.string p),(2,.int .i64 1)]=some (gM s p bD).val:=by kernel_rfl
theorem zA2 (x:aU):lL aH 25 [(1,.string x)]=some (.agg ⟨[.bool false,.string x]⟩):=by kernel_rfl
theorem zA3 (x:aU):lL aH 25 [(0,.bool true),(1,.string x)]=some (.agg ⟨[.bool true,.string x]⟩):=by kernel_rfl
theorem zom (s p:aU) (t:ay):(gM s p t).cells=[.string s,.string p,.int .i64 1,.bool t.v,.string t.s,.bool false,.string ⟨#[]⟩,.bool false,.string ⟨#[]⟩,.bool false,.string ⟨#[]⟩]:=rfl
theorem zC1 (s p x:aU) (h:Heap) (K:aJ) (hk:∀ h',Ext h h'->K (gM s p ⟨false,x⟩).val h'):Ok prog aH ov 10 [.string s,.string p,.string x] h K:=by
 rw [aw h]
 have z:=Ext.refl h
 have VK:∀ (cs:List ai) (h:Heap) (K:aJ),aK (some (.agg ⟨cs⟩)) h K=K (.agg ⟨cs⟩) h:=λ_ _ _=>rfl
 refine Ok.aA 13 (bH Zx) ?_
 repeat' (simp only [aa,seval,BN,zvV,dq])
 refine MY (i:=1) rfl ck rfl (gV _) rfl rfl ?_
 repeat' (simp only [aa,seval,BN,iy,gS,iI,Am.one,im,gd,ze,gN,lI,zom,zA2,VK])
 exact hk _ z.av
theorem zAx (s p x:aU) (h:Heap) (K:aJ) (hk:∀ h',Ext h h'->K (gM s p ⟨true,x⟩).val h'):Ok prog aH ov 13 [.string s,.string p,.string x] h K:=by
 rw [aw h]
 have z:=Ext.refl h
 have VK:∀ (cs:List ai) (h:Heap) (K:aJ),aK (some (.agg ⟨cs⟩)) h K=K (.agg ⟨cs⟩) h:=λ_ _ _=>rfl
 refine Ok.aA 13 (bH ZA) ?_
 repeat' (simp only [aa,seval,c13,zvV,dq])
 refine MY (i:=1) rfl ck rfl (gV _) rfl rfl ?_
 repeat' (simp only [aa,seval,c13,iy,gS,iI,Am.one,im,gd,ze,gN,lI,zom,zA3,VK])
 exact hk _ z.av
def N74:=bI f74
def x74:=PLift.up (by have c:=bM N74 f74;simp only [aO,f74,seval] at c;exact nd c <| nd @yV <| nd @ng <| @S6)
theorem c74:type_of% x74.down:=x74.down
end Go.Proofs.YtnkmeidmdaidhaaGreatDoor
