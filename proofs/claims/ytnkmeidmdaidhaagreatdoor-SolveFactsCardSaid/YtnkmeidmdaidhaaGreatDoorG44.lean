/- A text put together piece by piece. No condition. -/
import Derived.Test.YtnkmeidmdaidhaaGreatDoorG43
set_option linter.unusedSimpArgs false
set_option linter.unusedVariables false
set_option maxRecDepth 100000
set_option maxHeartbeats 0
namespace Go.Proofs.YtnkmeidmdaidhaaGreatDoor
open Go.Am Tryz
theorem zA7 (a:ae):a.cells[2]? = some (.int .i64 a.n):=rfl
theorem zsE (a:ae) (h:Heap) (K:aJ) (hk:∀ h',Ext h h'->K (.int .i64 (a.bx:Nat)) h'):Ok prog aH ov 74 [a.val] h K:=by
 rw [aw h]
 have z:=Ext.refl h
 have e:((a.bx:Nat):Int)=if 4 < (if a.n < 0 then 0 else a.n) then 4 else if a.n < 0 then 0 else a.n:=by
  unfold ae.bx
  split <;> split <;> (skip) <;> omega
 rw [e] at hk
 refine Ok.aA 6 (bH N74) ?_
 repeat' (first|simp only [aa,seval,c74,gV,zA7]|((with_reducible apply Nt);(· rfl);(· rfl))|((with_reducible apply Ns);(· rfl);(· rfl)))
 exact hk _ z.av
theorem zlp (a:ae) (i:Nat) (hi:i < 4):a.cells[3+i*2+0]? = some (.bool (a.arg i).v):=by
 have:i=0\/i=1\/i=2\/i=3:=by omega
 rcases this with rfl|rfl|rfl|rfl <;> rfl
theorem ztX (a:ae) (i:Nat) (hi:i < 4):a.cells[3+i*2+1]? = some (.string (a.arg i).s):=by
 have:i=0\/i=1\/i=2\/i=3:=by omega
 rcases this with rfl|rfl|rfl|rfl <;> rfl
theorem zDq:cA prog aH .eql 4 (.bool true) (.bool true)=some (.bool true):=by kernel_rfl
theorem zDp:cA prog aH .eql 4 (.bool true) (.bool false)=some (.bool false):=by kernel_rfl
theorem zDo:cA prog aH .eql 4 (.bool false) (.bool true)=some (.bool false):=by kernel_rfl
theorem zDn:cA prog aH .eql 4 (.bool false) (.bool false)=some (.bool true):=by kernel_rfl
theorem zsg (a:ae) (u:ai):cut (a.cells++[u]) 0 11=some a.cells:=rfl
theorem zwd (a:ae) (u:ai):cut (a.cells++[u]) 0 12=some (a.cells++[u]):=rfl
theorem M3 (a:ae) (u:ai):(a.cells++[u])[11]? = some u:=rfl
theorem zuG (a:ae) (h:Heap) (K:aJ) (hk:∀ h',Ext h h'->K (.bool a.ground) h'):Ok prog aH ov 41 [a.val] h K:=by
 rw [aw h]
 have z:=Ext.refl h
 have m9:a.bx<=4:=by unfold ae.bx;omega
 refine Ok.aA 14 (bH ZR) ?_
 repeat' (simp only [aa,seval,Gz,gV])
 refine uB (λh' x hq=>?_)
 have q0:=hq 0 _ rfl
 clear hq
 (replace z:=z.ao x;rw [aw h'])
 obtain ⟨A0,fI⟩:∃ A0,A0=h.size+0:=⟨_,rfl⟩
 rw [<- fI] at q0
 rw [<- fI]
 obtain ⟨I1,aX⟩:∃ I:Nat->Env->Heap->Prop,I=(λn e h'=>∃ (i:Nat) (h1:Heap),h'=h1.lay [] h1.low/\Ext h h1/\(n=a.bx - i/\i<=a.bx/\(∀ j,j < i->(a.arg j).v=false)/\Holds h1 A0 (.row a.cells 28 false))/\∃ J:Nat->ai,e=(J 0::.pointer (some ⟨A0,0,none⟩)::J 2::.int .i64 i::jr J 4 11 ([]))):=⟨_,rfl⟩
 refine dN I1 _ (by rw [aX];exact ⟨0,_,rfl,z,⟨rfl,by omega,λj hj=>by omega,q0⟩,bo⟩) ?_
 intro n e h' aP
 rw [aX] at aP
 obtain ⟨i,bU,rfl,z,hinv,J,rfl⟩:=aP
 clear q0
 obtain ⟨rfl,hi,aB,q0⟩:=hinv
 have hw:=eE i (by omega)
 simp only [aa,seval,Gz,q0.lay,↓fe,dU,dq]
 refine zsE a _ _ (λh' x=>?_)
 (replace z:=z.ao x;replace q0:=q0.over x;rw [aw h'])
 simp only [aa,seval,Gz]
 refine bS (λaT=>?_) (λaT=>?_)
 rotate_left
 .have hg:a.ground=true:=dG.2 (λj hj=>aB j (by omega))
  rw [hg] at hk
  repeat' (simp only [aa,seval,Gz])
  exact hk _ z.av
 have iK:(0:Int)<=(i:Int)/\(i:Int) < 4:=by omega
 have GP:=zlp a i (by omega)
 obtain ⟨vb,ph⟩:∃ vb,(a.arg i).v=vb:=⟨_,rfl⟩
 rw [ph] at GP
 cases vb
 .repeat' ( simp only [aa,seval,Gz,q0.lay,iK,GP])
  rw [hw]
  have qp:∀ j,j < i+1->(a.arg j).v=false:=by
   intro j hj
   by_cases na:j < i
   .exact aB j na
   .have:j=i:=by omega
    subst this
    exact ph
  (rw [aX];with_reducible refine cF (m:=_) ?_ ⟨i+1,_,rfl,z,⟨rfl,by omega,qp,q0⟩,bo⟩;omega)
 .have hg:a.ground=false:=by
   cases hgg:a.ground
   .rfl
   .rw [dG.1 hgg i (by omega)] at ph
    cases ph
  rw [hg] at hk
  repeat' (simp only [aa,seval,Gz,q0.lay,iK,GP])
  exact hk _ z.av
theorem zzg (a:ae) (h:Heap) (K:aJ) (jL:bF a->∀ h',Ext h h'->K (.bool true) h') (iJ:¬ bF a->∀ h',Ext h h'->K (.bool false) h'):Ok prog aH ov 23 [a.val] h K:=by
 rw [aw h]
 have z:=Ext.refl h
 refine Ok.aA 9 (bH ZE) ?_
 repeat' (simp only [aa,seval,Jt,gV,↓fe,dU,dq])
 refine X6 a _ _ (λhv h' x=>?_) (λhv c h' hc x=>?_)
 .have q0:=Holds.top (i:=0) x rfl
  (replace z:=z.ao x;rw [aw h'])
  repeat' (simp only [aa,seval,Jt,q0.lay,↓fe,dU,dq])
  refine zuG a _ _ (λh' x=>?_)
  (replace z:=z.ao x;replace q0:=q0.over x;rw [aw h'])
  cases hg:a.ground
  .repeat' ( simp only [aa,seval,Jt])
   exact iJ (λx=>by rw [x.ground] at hg;cases hg) _ z.av
  .repeat' ( simp only [aa,seval,Jt])
   exact jL ⟨hv,hg⟩ _ z.av
 ·(replace z:=z.ao x;rw [aw h'])
  repeat' (first|simp only [aa,seval,Jt]|((with_reducible apply qL) <;> intro _))
  .exact absurd (by assumption) hc
  .exact iJ (λx=>hv x.valid) _ z.av
theorem zxj (a:ae) (bv:Bool) (h:Heap) (K:aJ) (hk:∀ w l A h',Ext h h'->Ow aC.str h h' 9 A w l->l.length<=4->(∀ x,x∈l↔∃ i:Nat,i < a.bx/\(a.arg i).v=bv/\(a.arg i).s=x)->K w h'):Ok prog aH ov 107 [a.val,.bool bv] h K:=by
 rw [aw h]
 have z:=Ext.refl h
 have m9:a.bx<=4:=by unfold ae.bx;omega
 refine Ok.aA 50 (bH Ix) ?_
 repeat' (simp only [aa,seval,lA,gV])
 refine uB (λh' x hq=>?_)
 have q0:=hq 0 _ rfl
 clear hq
 (replace z:=z.ao x;rw [aw h'])
 have sS:=z.size
 obtain ⟨A0,fI⟩:∃ A0,A0=h.size+0:=⟨_,rfl⟩
 rw [<- fI] at q0
 rw [<- fI]
 have q0l:=q0.lt
 obtain ⟨I1,aX⟩:∃ I:Nat->Env->Heap->Prop,I=(λn e h'=>∃ (i:Nat) (wv:ai) (A:Nat) (l:List aU) (h1:Heap),h'=h1.lay [] h1.low/\Ext h h1/\(n=a.bx - i/\i<=a.bx/\l.length<=i/\(∀ x,x∈l↔∃ j:Nat,j < i/\(a.arg j).v=bv/\(a.arg j).s=x)/\Ow aC.str h h1 9 A wv l/\A≠A0/\Holds h1 A0 (.row a.cells 28 false))/\∃ J:Nat->ai,e=(J 0::.bool bv::.pointer (some ⟨A0,0,none⟩)::jr J 3 2 (wv::.int .i64 i::jr J 7 45 ([])))):=⟨_,rfl⟩
 refine dN I1 _ (by rw [aX];exact ⟨0,.slice none 0 0,A0+1,[],_,rfl,z,⟨rfl,by omega,by simp,by simp,Ow.nil (by omega),by omega,q0⟩,bo⟩) ?_
 intro n e h' aP
 rw [aX] at aP
 obtain ⟨i,wv,A,l,bU,rfl,z,hinv,J,rfl⟩:=aP
 clear q0
 obtain ⟨rfl,hi,pe,dR,ow,GL,q0⟩:=hinv
 have hw:=eE i (by omega)
 simp only [aa,seval,lA,q0.lay,↓fe,dU,dq]
 refine zsE a _ _ (λh' x=>?_)
 (replace z:=z.ao x;replace q0:=q0.over x;replace ow:=ow.over x;rw [aw h'])
 simp only [aa,seval,lA]
 refine bS (λaT=>?_) (λaT=>?_)
 rotate_left
 .have he:i=a.bx:=by omega
  rw [he] at dR
  repeat' (simp only [aa,seval,lA])
  exact hk _ _ _ _ z.av (ow.mono (bN.lay _ _ _)) (by omega) dR
 repeat' (simp only [aa,seval,lA])
 obtain ⟨I2,eu⟩:∃ I:Nat->Env->Heap->Prop,I=(λn e h'=>∃ (k:Nat) (b:Bool) (h1:Heap),h'=h1.lay [] h1.low/\Ext h h1/\(n=i - k/\k<=i/\(b=true↔∃ j:Nat,j < k/\a.arg j=a.arg i)/\Ow aC.str h h1 9 A wv l/\Holds h1 A0 (.row a.cells 28 false))/\∃ J:Nat->ai,e=(J 0::.bool bv::.pointer (some ⟨A0,0,none⟩)::jr J 3 2 (wv::.int .i64 i::.bool b::.int .i64 k::jr J 9 43 ([])))):=⟨_,rfl⟩
 refine dN I2 _ (by rw [eu];exact ⟨0,false,_,rfl,z,⟨rfl,by omega,by simp,ow,q0⟩,bo⟩) ?_
 intro n e h' aP
 rw [eu] at aP
 obtain ⟨k,b,bU,rfl,z,hinv,J,rfl⟩:=aP
 clear q0 ow
 obtain ⟨rfl,O2,lV,ow,q0⟩:=hinv
 have pL:=eE k (by omega)
 have iK:(0:Int)<=(i:Int)/\(i:Int) < 4:=by omega
 have jq:=Qn a i (by omega)
 simp only [aa,seval,lA]
 refine bS (λey=>?_) (λey=>?_)
 .have Ch:(0:Int)<=(k:Int)/\(k:Int) < 4:=by omega
  have jN:=Qn a k (by omega)
  have sO:(∃ j:Nat,j < k+1/\a.arg j=a.arg i)↔(∃ j:Nat,j < k/\a.arg j=a.arg i)\/a.arg k=a.arg i:=by
   constructor
   .rintro ⟨j,hj,e⟩
    by_cases El:j=k
    .subst El
     exact .inr e
    .exact .inl ⟨j,by omega,e⟩
   .rintro (⟨j,hj,e⟩|e)
    .exact ⟨j,by omega,e⟩
    .exact ⟨k,by omega,e⟩
  cases b
  .repeat' (first|simp only [aa,seval,lA,q0.lay,iK,Ch,↓jq,↓jN,XZ,xO,zoa]|with_reducible refine ez (by simp only [lA]) z.av ?_|((with_reducible  apply bS ) <;> intro _)|((with_reducible refine ⟨z.cU.lay _ _,?_⟩);(intro _ h' zz x _);( simp only [bY,bC] at x );( replace q0:=q0.over x );( replace ow:=ow.over x );(replace z:=zz);(clear zz);rw [aw h']))
   all_goals rw [pL]
   .have nT:(true=true↔∃ j:Nat,j < k+1/\a.arg j=a.arg i):=by rw [sO];exact ⟨λ_=>.inr (by assumption),λ_=>rfl⟩
    (rw [eu];with_reducible refine cF (m:=_) ?_ ⟨k+1,true,_,rfl,z,⟨rfl,by omega,nT,ow,q0⟩,bo⟩;omega)
   .have nT:(false=true↔∃ j:Nat,j < k+1/\a.arg j=a.arg i):=by
     rw [sO,<- lV]
     exact ⟨λe=>.inl e,λe=>e.elim id (λe=>absurd e (by assumption))⟩
    (rw [eu];with_reducible refine cF (m:=_) ?_ ⟨k+1,false,_,rfl,z,⟨rfl,by omega,nT,ow,q0⟩,bo⟩;omega)
  .repeat' (first|simp only [aa,seval,lA]|with_reducible refine ez (by simp only [lA]) z.av ?_|((with_reducible refine ⟨z.cU.lay _ _,?_⟩);(intro _ h' zz x _);( simp only [bY,bC] at x );( replace q0:=q0.over x );( replace ow:=ow.over x );(replace z:=zz);(clear zz);rw [aw h']))
   rw [pL]
   have nT:(true=true↔∃ j:Nat,j < k+1/\a.arg j=a.arg i):=by rw [sO];exact ⟨λe=>.inl (lV.1 e),λ_=>rfl⟩
   (rw [eu];with_reducible refine cF (m:=_) ?_ ⟨k+1,true,_,rfl,z,⟨rfl,by omega,nT,ow,q0⟩,bo⟩;omega)
 have rK:k=i:=by omega
 have GP:=zlp a i (by omega)
 have hcS:=ztX a i (by omega)
 have Pd:IntKind.i64.wrap ((i:Int)+1)=((i+1:Nat):Int):=hw
 have sO:∀ x,(∃ j:Nat,j < i+1/\(a.arg j).v=bv/\(a.arg j).s=x)↔(∃ j:Nat,j < i/\(a.arg j).v=bv/\(a.arg j).s=x)\/((a.arg i).v=bv/\(a.arg i).s=x):=by
  intro x
  constructor
  .rintro ⟨j,hj,e⟩
   by_cases El:j=i
   .subst El
    exact .inr e
   .exact .inl ⟨j,by omega,e⟩
  .rintro (⟨j,hj,e⟩|e)
   .exact ⟨j,by omega,e⟩
   .exact ⟨i,by omega,e⟩
 have qq:(b=true\/¬ (a.arg i).v=bv)->∀ x,x∈l↔∃ j:Nat,j < i+1/\(a.arg j).v=bv/\(a.arg j).s=x:=by
  intro hs x
  rw [sO,<- dR]
  refine ⟨.inl,λe=>e.elim id (λe=>?_)⟩
  rcases hs with hs|hs
  .obtain ⟨j,hj,ej⟩:=lV.1 hs
   rw [dR]
   exact ⟨j,by omega,by rw [ej];exact e⟩
  .exact absurd e.1 hs
 have sL:(a.arg i).v=bv->∀ x,x∈l++[(a.arg i).s]↔∃ j:Nat,j < i+1/\(a.arg j).v=bv/\(a.arg j).s=x:=by
  intro hs x
  rw [sO,<- dR,gg,ep]
  exact ⟨λe=>e.imp id (λe=>⟨hs,e.symm⟩),λe=>e.imp id (λe=>e.2.symm)⟩
 obtain ⟨vb,ph⟩:∃ vb,(a.arg i).v=vb:=⟨_,rfl⟩
 rw [ph] at GP qq sL
 cases vb
 all_goals
  cases bv
  all_goals
   cases b
   all_goals
    repeat' (first|simp only [aa,seval,lA,q0.lay,iK,GP,hcS,zDq,zDp,zDo,zDn]|((with_reducible apply cf);(· rfl)))
 all_goals first
  |(rw [hw]
    have EN:=qq (by simp)
    (rw [aX];with_reducible refine cF (m:=_) ?_ ⟨i+1,wv,A,l,_,rfl,z,⟨rfl,by omega,by omega,EN,ow,GL,q0⟩,bo⟩;omega))
  |skip
 all_goals
  simp only [cm,seval,jF,W1]
  have ic:=sL rfl
  have sH:(bU.lay [aZ.row [Value.string (a.arg i).s] 9 false] bU.low).size=bU.size+1:=by rw [bh];rfl
  obtain ⟨ji,j3⟩:=Bo (r:=aC.str) (A:=A) (c:=1) (y:=(a.arg i).s) (by decide) (show (bU.lay [aZ.row [Value.string (a.arg i).s] 9 false] bU.low).get (bU.size+0)=some (.row [Value.string (a.arg i).s] 9 false) by rw [jG];rfl) rfl
  have hz:=z.size
  obtain ⟨w',h2,A',e1,e2,e3,e4,e5⟩:=sb (t:=29) hY Qb rfl (by decide) (by rw [sH];omega) (ow.mono (bN.lay _ _ _)) ji j3 (by omega) (by omega)
  have wz:=ow.fresh
  have q0l:=q0.lt
  rw [sH] at e4
  replace z:=(z.jC [aZ.row [Value.string (a.arg i).s] 9 false] bU.low (by omega)).step e3 wz
  clear sO lV rK
  have q1:=q0.br e3 (by first|exact GL|exact Ne.symm GL)
  rw [e1,aw h2]
  clear q0 ow
 all_goals
  repeat' (simp only [aa,seval,lA])
  rw [hw]
  (rw [aX];with_reducible refine cF (m:=_) ?_ ⟨i+1,w',A',l++[(a.arg i).s],_,rfl,z,⟨rfl,by omega,by rw [cE,gF];omega,ic,e2,by omega,q1⟩,bo⟩;omega)
theorem zxk (a:ae) (bv:Bool) (h:Heap) (K:aJ) (hk:∀ w l h',Ext h h'->Sl aC.str h' w l->l.length<=4->(∀ x,x∈l↔∃ i:Nat,i < a.bx/\(a.arg i).v=bv/\(a.arg i).s=x)->K w h'):Ok prog aH ov 107 [a.val,.bool bv] h K :=
 zxj a bv h K (λw l A h' x o hl hm=>hk w l h' x (o.sl (by decide)) hl hm)
theorem zsO (a:ae) (h:Heap) (K:aJ) (hk:∀ w l h',Ext h h'->Sl aC.str h' w l->l.length<=4->(∀ x,x∈l↔la a x)->K w h'):Ok prog aH ov 73 [a.val] h K:=by
 rw [aw h]
 have z:=Ext.refl h
 refine Ok.aA 4 (bH N73) ?_
 repeat' (simp only [aa,seval,c73,gV,↓fe,dU,dq])
 refine zxk a true _ _ (λw l h' x s hl hm=>?_)
 (replace z:=z.ao x;rw [aw h'])
 repeat' (simp only [aa,seval,c73])
 exact hk _ _ _ z.av (s.lay _ _) hl (λx=>(hm x).trans jl.symm)
theorem zuJ (c:ak) (v:ai) (h:Heap) (hl:Sl aC.atom h v c.body) (hn:c.body.length<=1000) (K:aJ) (jL:(∀ x,la c.head x->∃ b∈c.body,la b x)->∀ h',Ext h h'->K (.bool true) h') (iJ:¬ (∀ x,la c.head x->∃ b∈c.body,la b x)->∀ h',Ext h h'->K (.bool false) h'):Ok prog aH ov 40 [.agg ⟨c.head.cells++[v]⟩] h K:=by
 rw [aw h]
 have z:=Ext.refl h
 have cX:∀ (h:Heap) (K:aJ),aK (some v) h K=K v h:=λ_ _=>rfl
 have dQ:=λ(hh:Heap)=>hl.bQ bZ hh
 refine Ok.aA 54 (bH ZQ) ?_
 repeat' (simp only [aa,seval,pX,↓zsg,dU,dq])
 refine zsO c.head _ _ (λw lh h' x s pe hm=>?_)
 have q0:=Holds.top (i:=0) x rfl
 (replace z:=z.ao x;rw [aw h'])
 obtain ⟨A0,fI⟩:∃ A0,A0=h.size+0:=⟨_,rfl⟩
 rw [<- fI] at q0
 rw [<- fI]
 have sK:=λ(hh:Heap)=>s.bQ hY hh
 repeat' (simp only [aa,seval,pX])
 obtain ⟨I1,aX⟩:∃ I:Nat->Env->Heap->Prop,I=(λn e h'=>∃ (i:Nat) (h1:Heap),h'=h1.lay [] h1.low/\Ext h h1/\(n=lh.length - i/\i<=lh.length/\(∀ x∈lh.take i,∃ b∈c.body,la b x)/\Holds h1 A0 (.row (c.head.cells++[v]) 35 false)/\Sl aC.str h1 w lh)/\∃ J:Nat->ai,e=(J 0::.pointer (some ⟨A0,0,none⟩)::J 2::w::.int .i64 i::jr J 5 50 ([]))):=⟨_,rfl⟩
 refine dN I1 _ (by rw [aX];exact ⟨0,_,rfl,z,⟨rfl,by omega,by simp,q0,s⟩,bo⟩) ?_
 intro n e h' aP
 rw [aX] at aP
 obtain ⟨i,bU,rfl,z,hinv,J,rfl⟩:=aP
 clear q0 s
 obtain ⟨rfl,hi,aB,q0,s⟩:=hinv
 have hw:=eE i (by omega)
 simp only [aa,seval,pX,sK]
 refine bS (λaT=>?_) (λaT=>?_)
 rotate_left
 .rw [gb (by omega)] at aB
  repeat' (simp only [aa,seval,pX])
  exact jL (λx hx=>aB x ((hm x).2 hx)) _ z.av
 obtain ⟨x0,Cv,rP⟩:=gC (l:=lh) (i:=i) (by omega)
 have hxh:la c.head x0:=(hm x0).1 (en rP)
 repeat' (simp only [aa,seval,pX])
 obtain ⟨I2,eu⟩:∃ I:Nat->Env->Heap->Prop,I=(λn e h'=>∃ (k:Nat) (b:Bool) (h1:Heap),h'=h1.lay [] h1.low/\Ext h h1/\(n=c.body.length - k/\k<=c.body.length/\(b=true↔∃ y∈c.body.take k,la y x0)/\Holds h1 A0 (.row (c.head.cells++[v]) 35 false)/\Sl aC.str h1 w lh)/\∃ J:Nat->ai,e=(J 0::.pointer (some ⟨A0,0,none⟩)::J 2::w::.int .i64 i::.bool b::.int .i64 k::jr J 7 48 ([]))):=⟨_,rfl⟩
 refine dN I2 _ (by rw [eu];exact ⟨0,false,_,rfl,z,⟨rfl,by omega,by simp,q0,s⟩,bo⟩) ?_
 intro n e h' aP
 rw [eu] at aP
 obtain ⟨k,b,bU,rfl,z,hinv,J,rfl⟩:=aP
 clear q0 s
 obtain ⟨rfl,O2,lV,q0,s⟩:=hinv
 have pL:=eE k (by omega)
 cases b
 rotate_left
 .have we:∀ x∈lh.take (i+1),∃ b∈c.body,la b x:=rY (i:=i) (P:=λx=>∃ b∈c.body,la b x) rP aB (by
   obtain ⟨y,hy,e⟩:=lV.1 rfl
   exact ⟨y,List.mem_of_mem_take hy,e⟩)
  simp only [aa,seval,pX,q0.lay,M3,cX,dQ]
  refine bS (λey=>?_) (λey=>?_)
  all_goals
   repeat' (first|simp only [aa,seval,pX]|((with_reducible apply cf);(· rfl)))
   rw [hw]
   (rw [aX];with_reducible refine cF (m:=_) ?_ ⟨i+1,_,rfl,z,⟨rfl,by omega,we,q0,s⟩,bo⟩;omega)
 simp only [aa,seval,pX,q0.lay,M3,cX,dQ]
 refine bS (λey=>?_) (λey=>?_)
 rotate_left
 .rw [gb (by omega)] at lV
  repeat' (first|simp only [aa,seval,pX]|((with_reducible apply cf);(· rfl)))
  exact iJ (λhh=>by have:=lV.2 (hh x0 hxh);cases this) _ z.av
 obtain ⟨y,hy,sQ⟩:=gC (l:=c.body) (i:=k) (by omega)
 repeat' (first|simp only [aa,seval,pX,q0.lay,M3,cX]|with_reducible refine r9 (hl.mono z.inc) bZ ck (by omega) hy (λp hp=>?_)|with_reducible refine qV hp iQ ck ?_|((with_reducible apply cf);(· rfl)))
 refine zsO y _ _ (λw2 l2 h' x s2 akM eX=>?_)
 (replace z:=z.ao x;replace q0:=q0.over x;replace s:=s.over x;rw [aw h'])
 have Ep:=λ(hh:Heap)=>s2.bQ hY hh
 repeat' (simp only [aa,seval,pX])
 obtain ⟨I3,lT⟩:∃ I:Nat->Env->Heap->Prop,I=(λn e h'=>∃ (d:Nat) (b:Bool) (h1:Heap),h'=h1.lay [] h1.low/\Ext h h1/\(n=l2.length - d/\d<=l2.length/\(b=true↔x0∈l2.take d)/\Holds h1 A0 (.row (c.head.cells++[v]) 35 false)/\Sl aC.str h1 w lh/\Sl aC.str h1 w2 l2)/\∃ J:Nat->ai,e=(J 0::.pointer (some ⟨A0,0,none⟩)::J 2::w::.int .i64 i::.bool b::.int .i64 k::w2::.int .i64 d::jr J 9 46 ([]))):=⟨_,rfl⟩
 refine dN I3 _ (by rw [lT];exact ⟨0,false,_,rfl,z,⟨rfl,by omega,by simp,q0,s,s2⟩,bo⟩) ?_
 intro n e h' aP
 rw [lT] at aP
 obtain ⟨d,b,bU,rfl,z,hinv,J,rfl⟩:=aP
 clear q0 s s2
 obtain ⟨rfl,yp,Ca,q0,s,s2⟩:=hinv
 have K7:=eE d (by omega)
 simp only [aa,seval,pX,Ep]
 refine bS (λtV=>?_) (λtV=>?_)
 rotate_left
 .rw [gb (by omega)] at Ca
  have nT:(b=true↔∃ y∈c.body.take (k+1),la y x0):=by
   rw [Ca,eX,lr,sQ]
   constructor
   .intro hh
    exact ⟨y,by simp,hh⟩
   .rintro ⟨y2,hy2,hh⟩
    rcases gg.1 hy2 with qT|qT
    .exact absurd (lV.2 ⟨y2,qT,hh⟩) (by decide)
    .obtain rfl:y2=y:=by simpa using qT
     exact hh
  repeat' (simp only [aa,seval,pX])
  rw [pL]
  (rw [eu];with_reducible refine cF (m:=_) ?_ ⟨k+1,b,_,rfl,z,⟨rfl,by omega,nT,q0,s⟩,bo⟩;omega)
 obtain ⟨x1,VZ,V0⟩:=gC (l:=l2) (i:=d) (by omega)
 have sO:x0∈l2.take (d+1)↔x0∈l2.take d\/x1=x0:=by
  rw [lr,V0,gg]
  simp [eq_comm]
 cases b
 rotate_left
 .repeat' (first|simp only [aa,seval,pX]|with_reducible refine ez (by simp only [pX]) z.av ?_|((with_reducible refine ⟨z.cU.lay _ _,?_⟩);(intro _ h' zz x _);( simp only [bY,bC] at x );( replace q0:=q0.over x );( replace s:=s.over x );( replace s2:=s2.over x );(replace z:=zz);(clear zz);rw [aw h']))
  rw [K7]
  have nT:(true=true↔x0∈l2.take (d+1)):=by rw [sO];exact ⟨λ_=>.inl (Ca.1 rfl),λ_=>rfl⟩
  (rw [lT];with_reducible refine cF (m:=_) ?_ ⟨d+1,true,_,rfl,z,⟨rfl,by omega,nT,q0,s,s2⟩,bo⟩;omega)
 repeat' (first|simp only [aa,seval,pX]|with_reducible refine ez (by simp only [pX]) z.av ?_|((with_reducible apply bS) <;> intro _)|with_reducible refine F7 s2 hY xD (by omega) VZ (λp hp=>?_)|with_reducible refine F7 s hY xD (by omega) Cv (λp hp=>?_)|with_reducible refine qJ hp uO ?_|((with_reducible refine ⟨z.cU.lay _ _,?_⟩);(intro _ h' zz x _);(simp only [bY,bC] at x);replace q0:=q0.over x;replace s:=s.over x;replace s2:=s2.over x;(replace z:=zz);(clear zz);rw [aw h']))
 .have nT:(true=true↔x0∈l2.take (d+1)):=by rw [sO];exact ⟨λ_=>.inr (by assumption),λ_=>rfl⟩
  rw [K7]
  (rw [lT];with_reducible refine cF (m:=_) ?_ ⟨d+1,true,_,rfl,z,⟨rfl,by omega,nT,q0,s,s2⟩,bo⟩;omega)
 .have nT:(false=true↔x0∈l2.take (d+1)):=by
   rw [sO,<- Ca]
   exact ⟨λe=>.inl e,λe=>e.elim id (λe=>absurd e (by assumption))⟩
  rw [K7]
  (rw [lT];with_reducible refine cF (m:=_) ?_ ⟨d+1,false,_,rfl,z,⟨rfl,by omega,nT,q0,s,s2⟩,bo⟩;omega)
theorem zBO (c:ak) (v:ai) (h:Heap) (hl:Sl aC.atom h v c.body) (hn:c.body.length<=1000) (K:aJ) (jL:jI c->∀ h',Ext h h'->K (.bool true) h') (iJ:¬ jI c->∀ h',Ext h h'->K (.bool false) h'):Ok prog aH ov 22 [.agg ⟨c.head.cells++[v]⟩] h K:=by
 rw [aw h]
 have z:=Ext.refl h
 have cX:∀ (h:Heap) (K:aJ),aK (some v) h K=K v h:=λ_ _=>rfl
 have dQ:=λ(hh:Heap)=>hl.bQ bZ hh
 refine Ok.aA 23 (bH ZD) ?_
 repeat' (simp only [aa,seval,yh,↓zsg,dU,dq])
 refine X6 c.head _ _ (λhv h' x=>?_) (λhv cc h' hc x=>?_)
 rotate_left
 ·(replace z:=z.ao x;rw [aw h'])
  repeat' (first|simp only [aa,seval,yh]|((with_reducible apply qM) <;> intro _))
  .exact iJ (λx=>hv x.head) _ z.av
  .exact absurd (by assumption) hc
 have q0:=Holds.top (i:=0) x rfl
 (replace z:=z.ao x;rw [aw h'])
 obtain ⟨A0,fI⟩:∃ A0,A0=h.size+0:=⟨_,rfl⟩
 rw [<- fI] at q0
 rw [<- fI]
 repeat' (simp only [aa,seval,yh])
 obtain ⟨I1,aX⟩:∃ I:Nat->Env->Heap->Prop,I=(λn e h'=>∃ (i:Nat) (h1:Heap),h'=h1.lay [] h1.low/\Ext h h1/\(n=c.body.length - i/\i<=c.body.length/\(∀ y∈c.body.take i,bg y)/\Holds h1 A0 (.row (c.head.cells++[v]) 35 false))/\∃ J:Nat->ai,e=(J 0::.pointer (some ⟨A0,0,none⟩)::J 2::.int .i64 i::jr J 4 20 ([]))):=⟨_,rfl⟩
 refine dN I1 _ (by rw [aX];exact ⟨0,_,rfl,z,⟨rfl,by omega,by simp,q0⟩,bo⟩) ?_
 intro n e h' aP
 rw [aX] at aP
 obtain ⟨i,bU,rfl,z,hinv,J,rfl⟩:=aP
 clear q0
 obtain ⟨rfl,hi,aB,q0⟩:=hinv
 have hw:=eE i (by omega)
 simp only [aa,seval,yh,q0.lay,M3,cX,dQ]
 refine bS (λaT=>?_) (λaT=>?_)
 rotate_left
 .rw [gb (by omega)] at aB
  repeat' (simp only [aa,seval,yh,q0.lay,↓zwd])
  refine zuJ c v _ ((hl.mono z.inc).lay _ _) hn _ (λhr h' x=>?_) (λhr h' x=>?_)
  ·(replace z:=z.ao x;( replace q0:=q0.over x );rw [aw h'])
   repeat' (simp only [aa,seval,yh])
   exact jL ⟨hv,aB,hr⟩ _ z.av
  ·(replace z:=z.ao x;( replace q0:=q0.over x );rw [aw h'])
   repeat' (simp only [aa,seval,yh])
   exact iJ (λx=>hr x.mM) _ z.av
 obtain ⟨y,hy,sQ⟩:=gC (l:=c.body) (i:=i) (by omega)
 repeat' (first|simp only [aa,seval,yh,q0.lay,M3,cX]|with_reducible refine r9 (hl.mono z.inc) bZ ck (by omega) hy (λp hp=>?_)|with_reducible refine qV hp iQ ck ?_)
 refine X6 y _ _ (λlX h' x=>?_) (λlX cc h' hc x=>?_)
 ·(replace z:=z.ao x;( replace q0:=q0.over x );rw [aw h'])
  repeat' (simp only [aa,seval,yh])
  rw [hw]
  (rw [aX];with_reducible refine cF (m:=_) ?_ ⟨i+1,_,rfl,z,⟨rfl,by omega,rY (i:=i) (P:=bg) sQ aB lX,q0⟩,bo⟩;omega)
 ·(replace z:=z.ao x;( replace q0:=q0.over x );rw [aw h'])
  repeat' (first|simp only [aa,seval,yh]|((with_reducible apply qM) <;> intro _))
  .exact iJ (λx=>lX (x.body y (en sQ))) _ z.av
  .exact absurd (by assumption) hc
theorem zBM (cl:List ak) (facts:aN) (v u:ai) (h:Heap) (hl:Sl aC.clause h v cl) (hf:Sl aC.atom h u facts) (hn:cl.length<=1000) (jN:∀ c∈cl,c.body.length<=1000) (lf:facts.length<=1000) (K:aJ) (jL:du cl facts->∀ h',Ext h h'->K (.bool true) h') (iJ:¬ du cl facts->∀ h',Ext h h'->K (.bool false) h'):Ok prog aH ov 11 [v,u] h K:=by
 rw [aw h]
 have z:=Ext.refl h
 have dQ:=λ(hh:Heap)=>hl.bQ fB hh
 have Ag:=λ(hh:Heap)=>hf.bQ bZ hh
 refine Ok.aA 29 (bH Zy) ?_
 simp only [aa,seval,vK]
 obtain ⟨I1,aX⟩:∃ I:Nat->Env->Heap->Prop,I=(λn e h'=>∃ (i:Nat) (h1:Heap),h'=h1.lay [] h1.low/\Ext h h1/\(n=cl.length - i/\i<=cl.length/\(∀ c∈cl.take i,jI c))/\∃ J:Nat->ai,e=(v::u::jr J 2 3 (.int .i64 i::jr J 6 25 ([])))):=⟨_,rfl⟩
 refine dN I1 _ (by rw [aX];exact ⟨0,_,rfl,z,⟨rfl,by omega,by simp⟩,bo⟩) ?_
 intro n e h' aP
 rw [aX] at aP
 obtain ⟨i,bU,rfl,z,hinv,J,rfl⟩:=aP
 obtain ⟨rfl,hi,aB⟩:=hinv
 have hw:=eE i (by omega)
 simp only [aa,seval,vK,dQ]
 refine bS (λaT=>?_) (λaT=>?_)
 .obtain ⟨r,hr,cw⟩:=gC (l:=cl) (i:=i) (by omega)
  repeat' (first|simp only [aa,seval,vK]|with_reducible refine Db (hl.mono z.inc) fB iE (by omega) hr (λp bd gz hp=>?_)|with_reducible refine G5 hp rz iE ?_)
  refine zBO r _ _ (Sl.lay (by assumption) _ _) (jN r (en cw)) _ (λho h' x=>?_) (λho h' x=>?_)
  ·(replace z:=z.ao x;rw [aw h'])
   repeat' (first|simp only [aa,seval,vK]|((with_reducible apply cf);(· rfl)))
   rw [hw]
   (rw [aX];with_reducible refine cF (m:=_) ?_ ⟨i+1,_,rfl,z,⟨rfl,by omega,rY (i:=i) (P:=jI) cw aB ho⟩,bo⟩;omega)
  ·(replace z:=z.ao x;rw [aw h'])
   repeat' (first|simp only [aa,seval,vK]|((with_reducible apply cf);(· rfl)))
   exact iJ (λx=>ho (x.clauses r (en cw))) _ z.av
 rw [gb (by omega)] at aB
 repeat' (simp only [aa,seval,vK])
 obtain ⟨I2,eu⟩:∃ I:Nat->Env->Heap->Prop,I=(λn e h'=>∃ (k:Nat) (h1:Heap),h'=h1.lay [] h1.low/\Ext h h1/\(n=facts.length - k/\k<=facts.length/\(∀ a∈facts.take k,bF a))/\∃ J:Nat->ai,e=(v::u::jr J 2 4 (.int .i64 k::jr J 7 24 ([])))):=⟨_,rfl⟩
 refine dN I2 _ (by rw [eu];exact ⟨0,_,rfl,z,⟨rfl,by omega,by simp⟩,bo⟩) ?_
 intro n e h' aP
 rw [eu] at aP
 obtain ⟨k,bU,rfl,z,hinv,J,rfl⟩:=aP
 obtain ⟨rfl,O2,kS⟩:=hinv
 have pL:=eE k (by omega)
 simp only [aa,seval,vK,Ag]
 refine bS (λey=>?_) (λey=>?_)
 rotate_left
 .rw [gb (by omega)] at kS
  repeat' (simp only [aa,seval,vK])
  exact jL ⟨aB,kS⟩ _ z.av
 obtain ⟨y,hy,sQ⟩:=gC (l:=facts) (i:=k) (by omega)
 repeat' (first|simp only [aa,seval,vK]|with_reducible refine r9 (hf.mono z.inc) bZ ck (by omega) hy (λp hp=>?_)|with_reducible refine qV hp iQ ck ?_)
 refine zzg y _ _ (λlX h' x=>?_) (λlX h' x=>?_)
 ·(replace z:=z.ao x;rw [aw h'])
  repeat' (first|simp only [aa,seval,vK]|((with_reducible apply cf);(· rfl)))
  rw [pL]
  (rw [eu];with_reducible refine cF (m:=_) ?_ ⟨k+1,_,rfl,z,⟨rfl,by omega,rY (i:=k) (P:=bF) sQ kS lX⟩,bo⟩;omega)
 ·(replace z:=z.ao x;rw [aw h'])
  repeat' (first|simp only [aa,seval,vK]|((with_reducible apply cf);(· rfl)))
  exact iJ (λx=>lX (x.facts y (en sQ))) _ z.av
end Go.Proofs.YtnkmeidmdaidhaaGreatDoor
