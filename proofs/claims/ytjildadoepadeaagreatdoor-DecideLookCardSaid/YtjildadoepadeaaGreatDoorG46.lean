/- The code of some functions, node by node, for simp. Written by a program (mkcode.py). No condition. -/
import Derived.Test.YtjildadoepadeaaGreatDoorG31
import Derived.Test.YtjildadoepadeaaGreatDoorG42
set_option linter.unusedSimpArgs false
set_option linter.unusedVariables false
set_option maxRecDepth 100000
set_option maxHeartbeats 0
namespace Go.Proofs.YtjildadoepadeaaGreatDoor
open Go.Am Tryz
noncomputable def Bv:=bq f106
noncomputable def EC:=PLift.up (by have c:=bw Bv f106;simp only [aJ,f106,seval] at c;exact nd c <| nd @s9 <| nd @jy <| @zxR)
theorem Jx:type_of% EC.down:=EC.down
theorem zvP (a:ae):a.cells[2]? = some (.int .i64 a.n):=rfl
theorem TL (a:ae) (h:Heap) (K:aF) (hk:∀ h',Ext h h'->K (.int .i64 (a.bR:Nat)) h'):Ok prog az ov 106 [a.val] h K:=by
 rw [ak h]
 have z:=Ext.refl h
 have e:((a.bR:Nat):Int)=if 4 < (if a.n < 0 then 0 else a.n) then 4 else if a.n < 0 then 0 else a.n:=by
  unfold ae.bR
  split <;> split <;> (skip) <;> omega
 rw [e] at hk
 refine Ok.au 6 (br Bv) ?_
 repeat' (first|simp only [aa,seval,Jx,e9,zvP]|((with_reducible apply N1);(· rfl);(· rfl))|((with_reducible apply Uq);(· rfl);(· rfl)))
 exact hk _ z.ao
theorem SI (a:ae) (i:Nat) (hi:i < 4):a.cells[3+i*2+0]? = some (.bool (a.arg i).v):=by
 have:i=0\/i=1\/i=2\/i=3:=by omega
 rcases this with rfl|rfl|rfl|rfl <;> rfl
theorem zpK (a:ae) (i:Nat) (hi:i < 4):a.cells[3+i*2+1]? = some (.string (a.arg i).s):=by
 have:i=0\/i=1\/i=2\/i=3:=by omega
 rcases this with rfl|rfl|rfl|rfl <;> rfl
theorem zxE:bD prog az .eql 4 (.bool true) (.bool true)=some (.bool true):=by kernel_rfl
theorem zxD:bD prog az .eql 4 (.bool true) (.bool false)=some (.bool false):=by kernel_rfl
theorem zxC:bD prog az .eql 4 (.bool false) (.bool true)=some (.bool false):=by kernel_rfl
theorem zxB:bD prog az .eql 4 (.bool false) (.bool false)=some (.bool true):=by kernel_rfl
theorem zqs (a:ae) (h:Heap) (K:aF) (hk:∀ h',Ext h h'->K (.bool a.ground) h'):Ok prog az ov 61 [a.val] h K:=by
 rw [ak h]
 have z:=Ext.refl h
 have oS:a.bR<=4:=by unfold ae.bR;omega
 refine Ok.au 14 (br Pn) ?_
 repeat' (simp only [aa,seval,zH,e9])
 refine ko (λh' x hq=>?_)
 have q0:=hq 0 _ rfl
 clear hq
 (replace z:=z.aj x;rw [ak h'])
 obtain ⟨A0,dA⟩:∃ A0,A0=h.size+0:=⟨_,rfl⟩
 rw [<- dA] at q0
 rw [<- dA]
 obtain ⟨I1,aU⟩:∃ I:Nat->Env->Heap->Prop,I=(λn e h'=>∃ (i:Nat) (h1:Heap),h'=h1.lay [] h1.low/\Ext h h1/\(n=a.bR - i/\i<=a.bR/\(∀ j,j < i->(a.arg j).v=false)/\Holds h1 A0 (.row a.cells 41 false))/\∃ J:Nat->ai,e=(J 0::.pointer (some ⟨A0,0,none⟩)::J 2::.int .i64 i::jr J 4 11 ([]))):=⟨_,rfl⟩
 refine dK I1 _ (by rw [aU];exact ⟨0,_,rfl,z,⟨rfl,by omega,λj hj=>by omega,q0⟩,bx⟩) ?_
 intro n e h' aR
 rw [aU] at aR
 obtain ⟨i,b8,rfl,z,hinv,J,rfl⟩:=aR
 clear q0
 obtain ⟨rfl,hi,aq,q0⟩:=hinv
 have hw:=ec i (by omega)
 simp only [aa,seval,zH,q0.lay,↓eZ,dO,dx]
 refine TL a _ _ (λh' x=>?_)
 (replace z:=z.aj x;replace q0:=q0.over x;rw [ak h'])
 simp only [aa,seval,zH]
 refine bp (λaS=>?_) (λaS=>?_)
 rotate_left
 .have hg:a.ground=true:=jj.2 (λj hj=>aq j (by omega))
  rw [hg] at hk
  repeat' (simp only [aa,seval,zH])
  exact hk _ z.ao
 have q7:(0:Int)<=(i:Int)/\(i:Int) < 4:=by omega
 have zR:=SI a i (by omega)
 obtain ⟨vb,rG⟩:∃ vb,(a.arg i).v=vb:=⟨_,rfl⟩
 rw [rG] at zR
 cases vb
 .repeat' ( simp only [aa,seval,zH,q0.lay,q7,zR])
  rw [hw]
  have nB:∀ j,j < i+1->(a.arg j).v=false:=by
   intro j hj
   by_cases lh:j < i
   .exact aq j lh
   .have:j=i:=by omega
    subst this
    exact rG
  (rw [aU];with_reducible refine db (m:=_) ?_ ⟨i+1,_,rfl,z,⟨rfl,by omega,nB,q0⟩,bx⟩;omega)
 .have hg:a.ground=false:=by
   cases VU:a.ground
   .rfl
   .rw [jj.1 VU i (by omega)] at rG
    cases rG
  rw [hg] at hk
  repeat' (simp only [aa,seval,zH,q0.lay,q7,zR])
  exact hk _ z.ao
theorem zsB (a:ae) (bv:Bool) (h:Heap) (K:aF) (hk:∀ w l A h',Ext h h'->Ow aQ.str h h' 9 A w l->l.length<=4->(∀ x,x∈l↔∃ i:Nat,i < a.bR/\(a.arg i).v=bv/\(a.arg i).s=x)->K w h'):Ok prog az ov 168 [a.val,.bool bv] h K:=by
 rw [ak h]
 have z:=Ext.refl h
 have oS:a.bR<=4:=by unfold ae.bR;omega
 refine Ok.au 50 (br BT) ?_
 repeat' (simp only [aa,seval,iP,e9])
 refine ko (λh' x hq=>?_)
 have q0:=hq 0 _ rfl
 clear hq
 (replace z:=z.aj x;rw [ak h'])
 have Ae:=z.size
 obtain ⟨A0,dA⟩:∃ A0,A0=h.size+0:=⟨_,rfl⟩
 rw [<- dA] at q0
 rw [<- dA]
 have Xc:=q0.lt
 obtain ⟨I1,aU⟩:∃ I:Nat->Env->Heap->Prop,I=(λn e h'=>∃ (i:Nat) (wv:ai) (A:Nat) (l:List aA) (h1:Heap),h'=h1.lay [] h1.low/\Ext h h1/\(n=a.bR - i/\i<=a.bR/\l.length<=i/\(∀ x,x∈l↔∃ j:Nat,j < i/\(a.arg j).v=bv/\(a.arg j).s=x)/\Ow aQ.str h h1 9 A wv l/\A≠A0/\Holds h1 A0 (.row a.cells 41 false))/\∃ J:Nat->ai,e=(J 0::.bool bv::.pointer (some ⟨A0,0,none⟩)::jr J 3 2 (wv::.int .i64 i::jr J 7 45 ([])))):=⟨_,rfl⟩
 refine dK I1 _ (by rw [aU];exact ⟨0,.slice none 0 0,A0+1,[],_,rfl,z,⟨rfl,by omega,by simp,by simp,Ow.nil (by omega),by omega,q0⟩,bx⟩) ?_
 intro n e h' aR
 rw [aU] at aR
 obtain ⟨i,wv,A,l,b8,rfl,z,hinv,J,rfl⟩:=aR
 clear q0
 obtain ⟨rfl,hi,Qi,cS,ow,KM,q0⟩:=hinv
 have hw:=ec i (by omega)
 simp only [aa,seval,iP,q0.lay,↓eZ,dO,dx]
 refine TL a _ _ (λh' x=>?_)
 (replace z:=z.aj x;replace q0:=q0.over x;replace ow:=ow.over x;rw [ak h'])
 simp only [aa,seval,iP]
 refine bp (λaS=>?_) (λaS=>?_)
 rotate_left
 .have he:i=a.bR:=by omega
  rw [he] at cS
  repeat' (simp only [aa,seval,iP])
  exact hk _ _ _ _ z.ao (ow.mono (dz.lay _ _ _)) (by omega) cS
 repeat' (simp only [aa,seval,iP])
 obtain ⟨I2,fV⟩:∃ I:Nat->Env->Heap->Prop,I=(λn e h'=>∃ (k:Nat) (b:Bool) (h1:Heap),h'=h1.lay [] h1.low/\Ext h h1/\(n=i - k/\k<=i/\(b=true↔∃ j:Nat,j < k/\a.arg j=a.arg i)/\Ow aQ.str h h1 9 A wv l/\Holds h1 A0 (.row a.cells 41 false))/\∃ J:Nat->ai,e=(J 0::.bool bv::.pointer (some ⟨A0,0,none⟩)::jr J 3 2 (wv::.int .i64 i::.bool b::.int .i64 k::jr J 9 43 ([])))):=⟨_,rfl⟩
 refine dK I2 _ (by rw [fV];exact ⟨0,false,_,rfl,z,⟨rfl,by omega,by simp,ow,q0⟩,bx⟩) ?_
 intro n e h' aR
 rw [fV] at aR
 obtain ⟨k,b,b8,rfl,z,hinv,J,rfl⟩:=aR
 clear q0 ow
 obtain ⟨rfl,Qf,i6,ow,q0⟩:=hinv
 have pd:=ec k (by omega)
 have q7:(0:Int)<=(i:Int)/\(i:Int) < 4:=by omega
 have kF:=AF a i (by omega)
 simp only [aa,seval,iP]
 refine bp (λrq=>?_) (λrq=>?_)
 .have tM:(0:Int)<=(k:Int)/\(k:Int) < 4:=by omega
  have G4:=AF a k (by omega)
  have oq:(∃ j:Nat,j < k+1/\a.arg j=a.arg i)↔(∃ j:Nat,j < k/\a.arg j=a.arg i)\/a.arg k=a.arg i:=by
   constructor
   .rintro ⟨j,hj,e⟩
    by_cases xV:j=k
    .subst xV
     exact .inr e
    .exact .inl ⟨j,by omega,e⟩
   .rintro (⟨j,hj,e⟩|e)
    .exact ⟨j,by omega,e⟩
    .exact ⟨k,by omega,e⟩
  cases b
  .repeat' (first|simp only [aa,seval,iP,q0.lay,q7,tM,↓kF,↓G4,FW,Az,Tj]|with_reducible refine hH (by simp only [iP]) z.ao ?_|((with_reducible  apply bp ) <;> intro _)|((with_reducible refine ⟨z.eD.lay _ _,?_⟩);(intro _ h' zz x _);( simp only [dy,cU] at x );( replace q0:=q0.over x );( replace ow:=ow.over x );(replace z:=zz);(clear zz);rw [ak h']))
   all_goals rw [pd]
   .have nk:(true=true↔∃ j:Nat,j < k+1/\a.arg j=a.arg i):=by rw [oq];exact ⟨λ_=>.inr (by assumption),λ_=>rfl⟩
    (rw [fV];with_reducible refine db (m:=_) ?_ ⟨k+1,true,_,rfl,z,⟨rfl,by omega,nk,ow,q0⟩,bx⟩;omega)
   .have nk:(false=true↔∃ j:Nat,j < k+1/\a.arg j=a.arg i):=by
     rw [oq,<- i6]
     exact ⟨λe=>.inl e,λe=>e.elim id (λe=>absurd e (by assumption))⟩
    (rw [fV];with_reducible refine db (m:=_) ?_ ⟨k+1,false,_,rfl,z,⟨rfl,by omega,nk,ow,q0⟩,bx⟩;omega)
  .repeat' (first|simp only [aa,seval,iP]|with_reducible refine hH (by simp only [iP]) z.ao ?_|((with_reducible refine ⟨z.eD.lay _ _,?_⟩);(intro _ h' zz x _);( simp only [dy,cU] at x );( replace q0:=q0.over x );( replace ow:=ow.over x );(replace z:=zz);(clear zz);rw [ak h']))
   rw [pd]
   have nk:(true=true↔∃ j:Nat,j < k+1/\a.arg j=a.arg i):=by rw [oq];exact ⟨λe=>.inl (i6.1 e),λ_=>rfl⟩
   (rw [fV];with_reducible refine db (m:=_) ?_ ⟨k+1,true,_,rfl,z,⟨rfl,by omega,nk,ow,q0⟩,bx⟩;omega)
 have tN:k=i:=by omega
 have zR:=SI a i (by omega)
 have VA:=zpK a i (by omega)
 have hws:IntKind.i64.wrap ((i:Int)+1)=((i+1:Nat):Int):=hw
 have oq:∀ x,(∃ j:Nat,j < i+1/\(a.arg j).v=bv/\(a.arg j).s=x)↔(∃ j:Nat,j < i/\(a.arg j).v=bv/\(a.arg j).s=x)\/((a.arg i).v=bv/\(a.arg i).s=x):=by
  intro x
  constructor
  .rintro ⟨j,hj,e⟩
   by_cases xV:j=i
   .subst xV
    exact .inr e
   .exact .inl ⟨j,by omega,e⟩
  .rintro (⟨j,hj,e⟩|e)
   .exact ⟨j,by omega,e⟩
   .exact ⟨i,by omega,e⟩
 have ml:(b=true\/¬ (a.arg i).v=bv)->∀ x,x∈l↔∃ j:Nat,j < i+1/\(a.arg j).v=bv/\(a.arg j).s=x:=by
  intro hs x
  rw [oq,<- cS]
  refine ⟨.inl,λe=>e.elim id (λe=>?_)⟩
  rcases hs with hs|hs
  .obtain ⟨j,hj,ej⟩:=i6.1 hs
   rw [cS]
   exact ⟨j,by omega,by rw [ej];exact e⟩
  .exact absurd e.1 hs
 have oh:(a.arg i).v=bv->∀ x,x∈l++[(a.arg i).s]↔∃ j:Nat,j < i+1/\(a.arg j).v=bv/\(a.arg j).s=x:=by
  intro hs x
  rw [oq,<- cS,pM,td]
  exact ⟨λe=>e.imp id (λe=>⟨hs,e.symm⟩),λe=>e.imp id (λe=>e.2.symm)⟩
 obtain ⟨vb,rG⟩:∃ vb,(a.arg i).v=vb:=⟨_,rfl⟩
 rw [rG] at zR ml oh
 cases vb
 all_goals
  cases bv
  all_goals
   cases b
   all_goals
    repeat' (first|simp only [aa,seval,iP,q0.lay,q7,zR,VA,zxE,zxD,zxC,zxB]|((with_reducible apply bK);(· rfl)))
 all_goals first
  |(rw [hw]
    have vB:=ml (by simp)
    (rw [aU];with_reducible refine db (m:=_) ?_ ⟨i+1,wv,A,l,_,rfl,z,⟨rfl,by omega,by omega,vB,ow,KM,q0⟩,bx⟩;omega))
  |skip
 all_goals
  simp only [gf,seval,F7,UW]
  have htk:=oh rfl
  have PV:(b8.lay [bd.row [Value.string (a.arg i).s] 9 false] b8.low).size=b8.size+1:=by rw [cF];rfl
  obtain ⟨yi,yk⟩:=Up (r:=aQ.str) (A:=A) (c:=1) (y:=(a.arg i).s) (by decide) (show (b8.lay [bd.row [Value.string (a.arg i).s] 9 false] b8.low).get (b8.size+0)=some (.row [Value.string (a.arg i).s] 9 false) by rw [iL];rfl) rfl
  have hz:=z.size
  obtain ⟨w',h2,A',e1,e2,e3,e4,e5⟩:=Ox (t:=23) dp H5 rfl (by decide) (by rw [PV];omega) (ow.mono (dz.lay _ _ _)) yi yk (by omega) (by omega)
  have zV:=ow.fresh
  have Xc:=q0.lt
  rw [PV] at e4
  replace z:=(z.mO [bd.row [Value.string (a.arg i).s] 9 false] b8.low (by omega)).step e3 zV
  clear oq i6 tN
  have q1:=q0.bG e3 (by first|exact KM|exact Ne.symm KM)
  rw [e1,ak h2]
  clear q0 ow
 all_goals
  repeat' (simp only [aa,seval,iP])
  rw [hw]
  (rw [aU];with_reducible refine db (m:=_) ?_ ⟨i+1,w',A',l++[(a.arg i).s],_,rfl,z,⟨rfl,by omega,by rw [hJ,zm];omega,htk,e2,by omega,q1⟩,bx⟩;omega)
theorem zsC (a:ae) (bv:Bool) (h:Heap) (K:aF) (hk:∀ w l h',Ext h h'->Sl aQ.str h' w l->l.length<=4->(∀ x,x∈l↔∃ i:Nat,i < a.bR/\(a.arg i).v=bv/\(a.arg i).s=x)->K w h'):Ok prog az ov 168 [a.val,.bool bv] h K :=
 zsB a bv h K (λw l A h' x o hl hm=>hk w l h' x (o.sl (by decide)) hl hm)
theorem zul (a:ae) (h:Heap) (K:aF) (hk:∀ w l h',Ext h h'->Sl aQ.str h' w l->l.length<=4->(∀ x,x∈l↔gi a x)->K w h'):Ok prog az ov 105 [a.val] h K:=by
 rw [ak h]
 have z:=Ext.refl h
 refine Ok.au 4 (br Bu) ?_
 repeat' (simp only [aa,seval,Cx,e9,↓eZ,dO,dx])
 refine zsC a true _ _ (λw l h' x s hl hm=>?_)
 (replace z:=z.aj x;rw [ak h'])
 repeat' (simp only [aa,seval,Cx])
 exact hk _ _ _ z.ao (s.lay _ _) hl (λx=>(hm x).trans kN.symm)
end Go.Proofs.YtjildadoepadeaaGreatDoor
