/- Walks: the names of the document, exactly. Written out by fill2.py. No condition. -/
import Derived.Test.YtkgojconmeeegaaGreatDoorG41
set_option linter.unusedSimpArgs false
set_option linter.unusedVariables false
set_option maxRecDepth 100000
set_option maxHeartbeats 0
namespace Go.Proofs.YtkgojconmeeegaaGreatDoor
open Go.Am Tryz
theorem zuh (a:ak) (i:Nat) (hi:i < 4):a.cells[3+i*2+0]? = some (.bool (a.arg i).v):=by
 have:i=0\/i=1\/i=2\/i=3:=by omega
 rcases this with rfl|rfl|rfl|rfl <;> rfl
theorem zve (a:ak) (h:Heap) (K:aG) (hk:∀ h',Ext h h'->K (.bool a.ground) h'):Ok prog aA ov 86 [a.val] h K:=by
 rw [ao h]
 have z:=Ext.refl h
 have yg:a.cU<=4:=by unfold ak.cU;omega
 refine Ok.aq 14 (bm Vp) ?_
 repeat' (simp only [aa,seval,wB,fA])
 refine lg (λh' x hq=>?_)
 have q0:=hq 0 _ rfl
 clear hq
 (replace z:=z.aj x;rw [ao h'])
 obtain ⟨A0,dK⟩:∃ A0,A0=h.size+0:=⟨_,rfl⟩
 rw [<- dK] at q0
 rw [<- dK]
 obtain ⟨I1,aO⟩:∃ I:Nat->Env->Heap->Prop,I=(λn e h'=>∃ (i:Nat) (h1:Heap),h'=h1.lay [] h1.low/\Ext h h1/\(n=a.cU - i/\i<=a.cU/\(∀ j,j < i->(a.arg j).v=false)/\Holds h1 A0 (.row a.cells 34 false))/\∃ J:Nat->ae,e=(J 0::.pointer (some ⟨A0,0,none⟩)::J 2::.int .i64 i::jr J 4 11 ([]))):=⟨_,rfl⟩
 refine cK I1 _ (by rw [aO];exact ⟨0,_,rfl,z,⟨rfl,by omega,λj hj=>by omega,q0⟩,bc⟩) ?_
 intro n e h' aK
 rw [aO] at aK
 obtain ⟨i,bD,rfl,z,hinv,J,rfl⟩:=aK
 clear q0
 obtain ⟨rfl,hi,aC,q0⟩:=hinv
 have hw:=dE i (by omega)
 simp only [aa,seval,wB,q0.lay,↓dW,dO,da]
 refine HF a _ _ (λh' x=>?_)
 (replace z:=z.aj x;replace q0:=q0.over x;rw [ao h'])
 simp only [aa,seval,wB]
 refine bg (λaP=>?_) (λaP=>?_)
 rotate_left
 .have hg:a.ground=true:=iC.2 (λj hj=>aC j (by omega))
  rw [hg] at hk
  repeat' (simp only [aa,seval,wB])
  exact hk _ z.au
 have DK:(0:Int)<=(i:Int)/\(i:Int) < 4:=by omega
 have zZ:=zuh a i (by omega)
 obtain ⟨vb,pX⟩:∃ vb,(a.arg i).v=vb:=⟨_,rfl⟩
 rw [pX] at zZ
 cases vb
 .repeat' ( simp only [aa,seval,wB,q0.lay,DK,zZ])
  rw [hw]
  have oF:∀ j,j < i+1->(a.arg j).v=false:=by
   intro j hj
   by_cases j6:j < i
   .exact aC j j6
   .have:j=i:=by omega
    subst this
    exact pX
  (rw [aO];with_reducible refine bS (m:=_) ?_ ⟨i+1,_,rfl,z,⟨rfl,by omega,oF,q0⟩,bc⟩;omega)
 .have hg:a.ground=false:=by
   cases YD:a.ground
   .rfl
   .rw [iC.1 YD i (by omega)] at pX
    cases pX
  rw [hg] at hk
  repeat' (simp only [aa,seval,wB,q0.lay,DK,zZ])
  exact hk _ z.au
theorem RP (l:List aN) (v:ae) (s:aB) (h:Heap) (hl:Sl aJ.bind h v l) (hs:l.length<=1000) (K:aG)
 (hk:∀ h',Ext h h'->K (.tuple #[(jC l s).1.val,.bool (jC l s).2]) h'):Ok prog aA ov 87 [v,.string s] h K:=by
 rw [ao h]
 have z:=Ext.refl h
 have cO:=λ(hh:Heap)=>hl.bt dm hh
 refine Ok.aq 24 (bm N87) ?_
 repeat' (simp only [aa,seval,Iy])
 refine lg (λh' x hq=>?_)
 have q0:=hq 0 _ rfl
 clear hq
 (replace z:=z.aj x;rw [ao h'])
 have rH:=z.size
 obtain ⟨A0,dK⟩:∃ A0,A0=h.size+0:=⟨_,rfl⟩
 rw [<- dK] at q0
 rw [<- dK]
 obtain ⟨I1,aO⟩:∃ I:Nat->Env->Heap->Prop,I=(λn e h'=>∃ (i:Nat) (h1:Heap),h'=h1.lay [] h1.low/\Ext h h1/\(n=l.length - i/\i<=l.length/\(∀ y∈l.take i,y.var≠s)/\Holds h1 A0 (.row [.bool false,.string ⟨#[]⟩] 31 false))/\∃ J:Nat->ae,e=(v::.string s::jr J 2 2 (.pointer (some ⟨A0,0,none⟩)::J 5::.int .i64 i::jr J 7 19 ([])))):=⟨_,rfl⟩
 refine cK I1 _ (by rw [aO];exact ⟨0,_,rfl,z,⟨rfl,by omega,by simp,q0⟩,bc⟩) ?_
 intro n e h' aK
 rw [aO] at aK
 obtain ⟨i,bD,rfl,z,hinv,J,rfl⟩:=aK
 clear q0
 obtain ⟨rfl,hi,iY,q0⟩:=hinv
 have hw:=dE i (by omega)
 have hz:=z.size
 simp only [aa,seval,Iy,cO]
 refine bg (λaP=>?_) (λaP=>?_)
 rotate_left
 .repeat' ( simp only [aa,seval,Iy,zlh,zq])
  refine HG q0 fK rfl rfl rfl (λh' I0 c=>?_)
  replace z:=z.au.step c (by omega)
  rw [ao h']
  simp only [aa,seval,Iy,I0.lay,En,↓Ju,Js,zq]
  have jd:=zqn (l:=l) (s:=s) (λy hy=>iY y (by rw [fX (by omega)];exact hy))
  rw [jd] at hk
  exact hk _ z.au
 obtain ⟨r,hr,bM⟩:=eb (l:=l) (i:=i) (by omega)
 repeat' (first|simp only [aa,seval,Iy]|((with_reducible apply bg) <;> intro _)|with_reducible refine sS (hl.mono z.inc) dm mO (by omega) hr (λp hp=>?_)|with_reducible refine qY hp qJ (λq hq=>?_)|with_reducible refine xP hp wW (λp hp=>?_)|with_reducible refine fo hq gU ?_|with_reducible refine Cq hp oo fK ?_)
 .refine HG q0 fK rfl rfl rfl (λh' I0 c=>?_)
  replace z:=z.au.step c (by omega)
  rw [ao h']
  simp only [aa,seval,Iy,I0.lay,En,↓Ju,Js,zq]
  have mf:=zqm bM iY (by assumption)
  rw [mf] at hk
  exact hk _ z.au
 .rw [hw]
  (rw [aO];with_reducible refine bS (m:=_) ?_ ⟨i+1,_,rfl,z,⟨rfl,by omega,mL (i:=i) (P:=λy:aN=>y.var≠s) bM iY (by assumption),q0⟩,bc⟩;omega)
theorem zCd (t:aH):t.cells[0]? = some (.bool t.v):=rfl
theorem zCe (t:aH):t.cells[1]? = some (.string t.s):=rfl
def zCP:aN:=⟨⟨#[]⟩,cu⟩
theorem ztq (l:List aN) (v:ae) (t:aH) (h:Heap) (hl:Sl aJ.bind h v l) (hs:l.length<=1000) (K:aG)
 (hk:∀ h',Ext h h'->K (mP l t).val h'):Ok prog aA ov 138 [v,t.val] h K:=by
 rw [ao h]
 have z:=Ext.refl h
 refine Ok.aq 17 (bm KJ) ?_
 simp only [aa,seval,vf,En,zCd]
 refine tZ (λhv=>?_) (λhv=>?_)
 rotate_left
 .have e:mP l t=t:=by unfold mP;rw [az (by rw [hv];simp)]
  rw [e] at hk
  repeat' (simp only [aa,seval,vf,↓Ju,Js,zq])
  refine Rr (i:=1) (by rfl) fK (by rfl) (En t) rfl rfl ?_
  simp only [aa,seval,vf]
  exact hk _ z.au
 repeat' (simp only [aa,seval,vf,zCe])
 refine RP l v t.s _ (hl.lay _ _) hs _ (λh' x=>?_)
 have q0:=Holds.top (i:=0) x rfl
 have q1:=Holds.top (i:=1) x rfl
 (replace z:=z.aj x;rw [ao h'])
 have hz:=z.size
 have e:mP l t=if (jC l t.s).2=true then (jC l t.s).1 else t:=by unfold mP;rw [hv];simp
 rw [e] at hk
 rcases hg:jC l t.s with ⟨⟨tv,ts⟩,pb⟩
 rw [hg] at hk
 cases pb
 all_goals
  repeat' (simp only [aa,seval,vf,iR,gL,ij,Am.one,iT,gX,gA,q0.lay,aH.val,aH.cells])
 all_goals
  refine HG q1 fK rfl rfl rfl (λj4 I6 c=>?_)
  replace z:=z.au.step c (by omega)
  rw [ao j4]
  simp only [aa,seval,vf,I6.lay]
  exact hk _ z.au
theorem zpy (l:List aN) (v:ae) (h:Heap) (hl:Sl aJ.bind h v l) (hs:l.length<=1000) (K:aG)
 (hk:∀ h' e,Ext h h'->(e=0↔s7 l)->K (.int .i64 e) h'):Ok prog aA ov 84 [v] h K:=by
 rw [ao h]
 have z:=Ext.refl h
 have cO:=λ(hh:Heap)=>hl.bt dm hh
 have jd:¬ s7 l->∀ h',Ext h h'->K (.int .i64 15) h':=λhn h' x=>hk h' 15 x ⟨λhh=>absurd hh (by decide),λhh=>absurd hh hn⟩
 refine Ok.aq 54 (bm N84) ?_
 simp only [aa,seval,Dq]
 obtain ⟨I1,aO⟩:∃ I:Nat->Env->Heap->Prop,I=(λn e h'=>∃ (i:Nat) (h1:Heap),h'=h1.lay [] h1.low/\Ext h h1/\(n=l.length - i/\i<=l.length/\sO l i/\(∀ b∈l.take i,b.term.s≠⟨#[]⟩/\¬ (b.term.v=true/\(jC l b.term.s).2=true)))/\∃ J:Nat->ae,e=(v::jr J 1 2 (.int .i64 i::jr J 4 51 ([])))):=⟨_,rfl⟩
 refine cK I1 _ (by rw [aO];exact ⟨0,_,rfl,z,⟨rfl,by omega,zhV (by omega),by simp⟩,bc⟩) ?_
 intro n e h' aK
 rw [aO] at aK
 obtain ⟨i,bD,rfl,z,hinv,J,rfl⟩:=aK
 obtain ⟨rfl,hi,Tz,aC⟩:=hinv
 have hw:=dE i (by omega)
 simp only [aa,seval,Dq,cO]
 refine bg (λaP=>?_) (λaP=>?_)
 rotate_left
 .have he:i=l.length:=by omega
  rw [fX (by omega)] at aC
  rw [he] at Tz
  repeat' (simp only [aa,seval,Dq])
  exact hk _ _ z.au ⟨λ_=>⟨Tz,aC⟩,λ_=>rfl⟩
 obtain ⟨r,hr,bM⟩:=eb (l:=l) (i:=i) (by omega)
 have b9:=ig bM
 obtain ⟨x0,ZK,Oo⟩:∃ x0,(0 < i->l[((i:Int) - 1).toNat]? = some x0)/\(0 < i->l[i - 1]? = some x0):=by
  by_cases h0:0 < i
  .have e:((i:Int) - 1).toNat=i - 1:=by omega
   rw [e]
   exact ⟨l[i - 1]'(by omega),λ_=>gI (by omega),λ_=>gI (by omega)⟩
  .exact ⟨zCP,λh=>absurd h h0,λh=>absurd h h0⟩
 have ZB:IntKind.i64.wrap ((i:Int) - 1)=(i:Int) - 1:=by rw [wrap_i64 (by omega) (by omega)]
 repeat' (first|simp only [aa,seval,Dq,ZB,UX]|with_reducible refine cZ (by simp only [Dq]) z.au ?_|((with_reducible first|apply bg|apply zr) <;> intro _)|with_reducible refine sS (hl.mono z.inc) dm mO (by omega) (ZK (by omega)) (λp hp=>?_)|with_reducible refine sS (hl.mono z.inc) dm mO (by omega) hr (λp hp=>?_)|with_reducible refine qY hp qJ (λq hq=>?_)|with_reducible refine xP hp wW (λp hp=>?_)|with_reducible refine Wh hp tY (λq hq=>?_)|with_reducible refine MH hp qM (λq hq=>?_)|with_reducible refine fo hq gU ?_|with_reducible refine fo hq ag4 ?_|((with_reducible refine ⟨z.bZ.lay _ _,?_⟩);(intro _ h' zz x _);(simp only [bG,bu] at x);(replace z:=zz);(clear zz);rw [ao h']))
 all_goals try
  ((with_reducible refine jd (λhh=>?_) _ z.au)
   first
    |exact (hh.2 r b9).1 (by assumption)
    |(have Zc:=zj4 hh.1 (i:=i - 1) (j:=i) (by omega) (Oo (by omega)) bM
      simp_all))
 all_goals
  have N1:sO l (i+1):=by
   first
    |exact zj5 Tz (by omega) (Oo (by omega)) bM (by assumption)
    |exact zhV (by omega)
  have ba:r.term.s≠⟨#[]⟩:=by assumption
  refine zrh (λhv=>?_) (λhv=>?_)
  rotate_left
  .have oF:∀ b∈l.take (i+1),b.term.s≠⟨#[]⟩/\¬ (b.term.v=true/\(jC l b.term.s).2=true):=mL (i:=i) (P:=λb:aN=>b.term.s≠⟨#[]⟩/\¬ (b.term.v=true/\(jC l b.term.s).2=true)) bM aC ⟨ba,by rw [hv];simp⟩
   repeat' (simp only [aa,seval,Dq])
   rw [hw]
   (rw [aO];with_reducible refine bS (m:=_) ?_ ⟨i+1,_,rfl,z,⟨rfl,by omega,N1,oF⟩,bc⟩;omega)
  rcases hg:jC l r.term.s with ⟨⟨tv,ts⟩,pb⟩
  clear hp hq
  repeat' (first|simp only [aa,seval,Dq]|with_reducible refine sS (hl.mono z.inc) dm mO (by omega) hr (λp hp=>?_)|with_reducible refine xP hp wW (λp hp=>?_)|with_reducible refine MH hp qM (λq hq=>?_)|with_reducible refine fo hq gU ?_)
  refine RP l v r.term.s _ ((hl.mono z.inc).lay _ _) hs _ (λh' x=>?_)
  rw [hg]
  (replace z:=z.aj x;rw [ao h'])
  cases pb
  all_goals
   repeat' (simp only [aa,seval,Dq,iR,gL,ij,Am.one,iT,gX,gA,aH.val,aH.cells])
  .have oF:∀ b∈l.take (i+1),b.term.s≠⟨#[]⟩/\¬ (b.term.v=true/\(jC l b.term.s).2=true):=mL (i:=i) (P:=λb:aN=>b.term.s≠⟨#[]⟩/\¬ (b.term.v=true/\(jC l b.term.s).2=true)) bM aC ⟨ba,by rw [hg];simp⟩
   rw [hw]
   refine zpq z.au (λH z=>?_)
   (rw [aO];with_reducible refine bS (m:=_) ?_ ⟨i+1,_,rfl,z,⟨rfl,by omega,N1,oF⟩,bc⟩;omega)
  .exact jd (λhh=>(hh.2 r b9).2 ⟨hv,by rw [hg]⟩) _ z.au
theorem Q9 (b:aN) (z0 z1 z2:ae):sU (λi=>some (i*3,3)) [z0,z1,z2] [(0,b.val)]=some b.cells:=rfl
theorem zC2 (l:List aN) (v:ae) (b:aN) (h:Heap) (hl:Sl aJ.bind h v l) (hs:l.length<=1000) (K:aG)
 (hk:∀ h' w A,Ext h h'->Ow aJ.bind h h' 195 A w (uV l b)->K w h'):Ok prog aA ov 139 [v,b.val] h K:=by
 rw [ao h]
 have z:=Ext.refl h
 have cO:=λ(hh:Heap)=>hl.bt dm hh
 refine Ok.aq 42 (bm KK) ?_
 repeat' (simp only [aa,seval,gZ,zln])
 refine lg (λh' x hq=>?_)
 have q0:=hq 0 _ rfl
 clear hq
 (replace z:=z.aj x;rw [ao h'])
 have rH:=z.size
 obtain ⟨A0,dK⟩:∃ A0,A0=h.size+0:=⟨_,rfl⟩
 rw [<- dK] at q0
 rw [<- dK]
 have Yg:b.cells=[.string b.var,.bool b.term.v,.string b.term.s]:=rfl
 obtain ⟨I1,aO⟩:∃ I:Nat->Env->Heap->Prop,I=(λn e h'=>∃ (i:Nat) (wv:ae) (A:Nat) (o:List aN) (c:Bool) (h1:Heap),h'=h1.lay [] h1.low/\Ext h h1/\(n=l.length - i/\i<=l.length/\(c=false->o=l.take i/\∀ y∈l.take i,slt b.var y.var=false)/\(c=true->o++l.drop i=uV l b)/\o.length<=i+1/\Ow aJ.bind h h1 195 A wv o/\A≠A0/\Holds h1 A0 (.row b.cells 195 false))/\∃ J:Nat->ae,e=(v::jr J 1 2 (.pointer (some ⟨A0,0,none⟩)::J 4::wv::.bool c::.int .i64 i::jr J 8 36 ([])))):=⟨_,rfl⟩
 refine cK I1 _ (by rw [aO];exact ⟨0,.slice none 0 0,A0+1,[],false,_,rfl,z,⟨rfl,by omega,by simp,by simp,by simp,Ow.nil (by omega),by omega,q0⟩,bc⟩) ?_
 intro n e h' aK
 rw [aO] at aK
 obtain ⟨i,wv,A,o,c,bD,rfl,z,hinv,J,rfl⟩:=aK
 clear q0
 obtain ⟨rfl,hi,jd,aK,hol,ow,FQ,q0⟩:=hinv
 have hw:=dE i (by omega)
 have hz:=z.size
 simp only [aa,seval,gZ,cO]
 refine bg (λaP=>?_) (λaP=>?_)
 rotate_left
 .have he:i=l.length:=by omega
  cases c
  .obtain ⟨ho,aC⟩:=jd rfl
   rw [fX (by omega)] at ho aC
   have jO:=zzg (b:=b) aC
   repeat' (first|simp only [aa,seval,gZ,q0.lay,↓zmD,zmk,Rs]|((with_reducible apply bI);(· rfl)))
   simp only [aa,seval,gZ,ja,zK,Q9]
   refine HP (i:=0) (cs:=b.cells) (x:=b) dm vU rfl (by decide) (by rfl) z.size ow rfl (by omega) (by omega) (λw' h2 A' IZ cg ra=>?_)
   have rq:=ow.fresh
   replace z:=z.au.step cg (by omega)
   rw [ao h2]
   have yS:∀ (h:Heap) (K:aG),aD (some w') h K=K w' h:=λ_ _=>rfl
   repeat' (simp only [aa,seval,gZ])
   rw [ho,<- jO] at IZ
   exact hk _ _ _ z.au (IZ.mono (b8.lay _ _ _))
  .have BN:=aK rfl
   rw [zE (by omega),bu] at BN
   rw [BN] at ow
   repeat' (first|simp only [aa,seval,gZ]|((with_reducible apply bI);(· rfl)))
   exact hk _ _ _ z.au (ow.mono (b8.lay _ _ _))
 obtain ⟨r,hr,bM⟩:=eb (l:=l) (i:=i) (by omega)
 have nZ:l.take (i+1)=l.take i++[r]:=by rw [nT,bM];rfl
 have hdr:l.drop i=r::l.drop (i+1):=by
  obtain ⟨hh,he⟩:=dz.1 bM
  rw [<- he]
  exact C0 hh
 cases c
 .obtain ⟨ho,aC⟩:=jd rfl
  repeat' (first|simp only [aa,seval,gZ,q0.lay,Yg,zwD]|with_reducible refine cZ (by simp only [gZ]) z.au ?_|with_reducible refine sS (hl.mono z.inc) dm mO (by omega) hr (λp hp=>?_)|with_reducible refine qY hp qJ (λq hq=>?_)|with_reducible refine fo hq gU ?_|((with_reducible apply bI);(· rfl)))
  refine tZ (λgr=>?_) (λgr=>?_)
  .have Nw:=zwd aC bM gr
   have rq:=ow.fresh
   repeat' (first|simp only [aa,seval,gZ,q0.lay,↓zmD,zmk,Rs]|((with_reducible refine ⟨z.bZ.lay _ _,?_⟩);(intro _ h' zz x _);(simp only [bG,bu] at x);replace q0:=q0.over x;replace ow:=ow.over x;(replace z:=zz);(clear zz);rw [ao h']))
   skip
   simp only [aa,seval,gZ,ja,zK,Q9]
   refine HP (i:=0) (cs:=b.cells) (x:=b) dm vU rfl (by decide) (by rfl) z.size ow rfl (by omega) (by omega) (λw' h2 A' IZ cg ra=>?_)
   have apz:=q0.lt
   have q02:=q0.bj cg (Ne.symm FQ)
   replace z:=z.au.step cg (by omega)
   rw [ao h2]
   have yS:∀ (h:Heap) (K:aG),aD (some w') h K=K w' h:=λ_ _=>rfl
   have lu:=z.size
   have hf2:=IZ.fresh
   have OU:=q02.lt
   clear hp hq
   repeat' (first|simp only [aa,seval,gZ]|with_reducible refine sS (hl.mono z.inc) dm mO (by omega) hr (λp hp=>?_)|with_reducible refine OC hp Ka mO ?_)
   simp only [aa,seval,gZ,ja,zK,Q9]
   refine HP (i:=0) (cs:=r.cells) (x:=r) dm vU rfl (by decide) (by rfl) z.size IZ rfl (by rw [cW,sW];omega) (by rw [cW,sW];omega) (λw3 h3 A3 wN mb re=>?_)
   have OT:=q02.bj mb (by omega)
   replace z:=z.au.step mb (by omega)
   rw [ao h3]
   have Ol:∀ (h:Heap) (K:aG),aD (some w3) h K=K w3 h:=λ_ _=>rfl
   repeat' (simp only [aa,seval,gZ])
   rw [hw]
   rw [ho] at wN
   clear q0 ow q02 IZ aK
   have hU:l.take i++[b]++[r]++l.drop (i+1)=uV l b:=by rw [Nw,hdr];simp
   have hf3:=wN.fresh
   (rw [aO];with_reducible refine bS (m:=_) ?_ ⟨i+1,w3,A3,l.take i++[b]++[r],true,_,rfl,z,⟨rfl,by omega,nofun,λ_=>hU,by simp only [cW,sW,fj];omega,wN,by omega,OT⟩,bc⟩;omega)
  .have rq:=ow.fresh
   clear hp hq
   repeat' (first|simp only [aa,seval,gZ]|with_reducible refine sS (hl.mono z.inc) dm mO (by omega) hr (λp hp=>?_)|with_reducible refine OC hp Ka mO ?_|((with_reducible refine ⟨z.bZ.lay _ _,?_⟩);(intro _ h' zz x _);(simp only [bG,bu] at x);replace q0:=q0.over x;replace ow:=ow.over x;(replace z:=zz);(clear zz);rw [ao h']))
   have lu:=z.size
   skip
   simp only [aa,seval,gZ,ja,zK,Q9]
   refine HP (i:=0) (cs:=r.cells) (x:=r) dm vU rfl (by decide) (by rfl) z.size ow rfl (by omega) (by omega) (λw3 h3 A3 wN mb re=>?_)
   have OT:=q0.bj mb (Ne.symm FQ)
   have OU:=q0.lt
   replace z:=z.au.step mb (by omega)
   rw [ao h3]
   have Ol:∀ (h:Heap) (K:aG),aD (some w3) h K=K w3 h:=λ_ _=>rfl
   repeat' (simp only [aa,seval,gZ])
   rw [hw]
   rw [ho,<- nZ] at wN
   clear q0 ow aK
   have M6:∀ y∈l.take (i+1),slt b.var y.var=false:=mL (i:=i) (P:=λy:aN=>slt b.var y.var=false) bM aC gr
   (rw [aO];with_reducible refine bS (m:=_) ?_ ⟨i+1,w3,A3,l.take (i+1),false,_,rfl,z,⟨rfl,by omega,λ_=>⟨rfl,M6⟩,nofun,by rw [fj];omega,wN,by omega,OT⟩,bc⟩;omega)
 .have BN:=aK rfl
  have rq:=ow.fresh
  repeat' (first|simp only [aa,seval,gZ]|with_reducible refine cZ (by simp only [gZ]) z.au ?_|with_reducible refine sS (hl.mono z.inc) dm mO (by omega) hr (λp hp=>?_)|with_reducible refine OC hp Ka mO ?_|((with_reducible apply bI);(· rfl))|((with_reducible refine ⟨z.bZ.lay _ _,?_⟩);(intro _ h' zz x _);(simp only [bG,bu] at x);replace q0:=q0.over x;replace ow:=ow.over x;(replace z:=zz);(clear zz);rw [ao h']))
  have lu:=z.size
  skip
  simp only [aa,seval,gZ,ja,zK,Q9]
  refine HP (i:=0) (cs:=r.cells) (x:=r) dm vU rfl (by decide) (by rfl) z.size ow rfl (by omega) (by omega) (λw3 h3 A3 wN mb re=>?_)
  have OT:=q0.bj mb (Ne.symm FQ)
  have OU:=q0.lt
  replace z:=z.au.step mb (by omega)
  rw [ao h3]
  have Ol:∀ (h:Heap) (K:aG),aD (some w3) h K=K w3 h:=λ_ _=>rfl
  repeat' (simp only [aa,seval,gZ])
  rw [hw]
  clear q0 ow jd
  have hU:o++[r]++l.drop (i+1)=uV l b:=by rw [<- BN,hdr];simp
  (rw [aO];with_reducible refine bS (m:=_) ?_ ⟨i+1,w3,A3,o++[r],true,_,rfl,z,⟨rfl,by omega,nofun,λ_=>hU,by rw [cW,sW];omega,wN,by omega,OT⟩,bc⟩;omega)
theorem zC9 {h:Heap} {A:Nat} {b:aN} {u:TypeId} {ro:Bool} (q:Holds h A (.row b.cells u ro)):Sl aJ.bind h (.slice (some ⟨A,0,none⟩) 1 1) [b]:=by
 refine .inr ⟨A,0,1,b.cells,u,ro,rfl,(by show 1<=maxLen;decide),.inl ⟨by decide,bo _⟩,q.lt,q.get,λi x hx=>?_⟩
 cases i with
 |zero =>
  simp at hx
  subst hx
  exact ⟨_,rfl,rfl⟩
 |succ i=>simp at hx
theorem zz7 (l:List aN) (v:ae) (s:aB) (t:aH) (h:Heap) (hl:Sl aJ.bind h v l) (hs:l.length<=900) (K:aG)
 (hk:∀ h' w e,Ext h h'->(ua l s t=none->e≠0)->(∀ m,ua l s t=some m->e=0/\∃ A,Ow aJ.bind h h' 195 A w m)->K (.tuple #[w,.int .i64 e]) h'):Ok prog aA ov 88 [v,.string s,t.val] h K:=by
 rw [ao h]
 have z:=Ext.refl h
 have cO:=λ(hh:Heap)=>hl.bt dm hh
 rcases hg:jC l s with ⟨⟨tv,ts⟩,pb⟩
 obtain ⟨x,hx⟩:∃ x,x=mP l t:=⟨_,rfl⟩
 rcases x with ⟨xv,xs⟩
 unfold ua at hk
 rw [hg,<- hx] at hk
 refine Ok.aq 70 (bm N88) ?_
 repeat' (simp only [aa,seval,sj,En])
 refine zpy l _ _ (hl.lay _ _) (by omega) _ (λh' e x he=>?_)
 have q0:=Holds.top (i:=0) x rfl
 (replace z:=z.aj x;rw [ao h'])
 simp only [aa,seval,sj]
 refine SL ?_ ?_
 .intro ba
  repeat' (simp only [aa,seval,sj])
  have rh:¬ s7 l:=λhh=>ba (he.2 hh)
  rw [aE rh] at hk
  exact hk _ _ _ z.au (λ_=>by decide) (λm hm=>by cases hm)
 intro yi
 have hC:=he.1 yi
 rw [az (by simpa using hC)] at hk
 repeat' (first|simp only [aa,seval,sj,q0.lay,aH.cells]|((with_reducible apply bg) <;> intro _))
 all_goals try
  (have h1:s=⟨#[]⟩\/t.s=⟨#[]⟩:=by first|exact .inl (by assumption)|exact .inr (by assumption)|exact .inl (Eq.symm (by assumption))|exact .inr (Eq.symm (by assumption))
   rw [aE h1] at hk
   with_reducible refine hk _ _ _ z.au (λ_=>by decide) (λm hm=>by cases hm))
 have h1:¬ (s=⟨#[]⟩\/t.s=⟨#[]⟩):=by rintro (e|e) <;> first|contradiction|exact absurd e.symm (by assumption)
 rw [az h1] at hk
 refine RP l _ s _ ((hl.mono z.inc).lay _ _) (by omega) _ (λh' x=>?_)
 rw [hg]
 (replace z:=z.aj x;replace q0:=q0.over x;rw [ao h'])
 cases pb
 rotate_left
 .repeat' ( simp only [aa,seval,sj,iR,gL,ij,Am.one,iT,gX,gA,aH.val,aH.cells])
  rw [aE rfl] at hk
  exact hk _ _ _ z.au (λ_=>by decide) (λm hm=>by cases hm)
 rw [az (by simp)] at hk
 repeat' (simp only [aa,seval,sj,iR,gL,ij,Am.one,iT,gX,gA,q0.lay,aH.val,aH.cells])
 refine ztq l v t _ ((hl.mono z.inc).lay _ _) (by omega) _ (λh' x=>?_)
 rw [<- hx]
 (replace z:=z.aj x;replace q0:=q0.over x;rw [ao h'])
 simp only [aa,seval,sj,iR,gL,ij,Am.one,iT,gX,gA,aH.val,aH.cells]
 repeat' ((first|((with_reducible apply bg) <;> intro _)|with_reducible refine tZ (λ_=>?_) (λ_=>?_)) <;> simp only [aa,seval,sj,zoq])
 all_goals try
  (have vD:rJ ⟨s,⟨xv,xs⟩⟩=true:=by unfold rJ;simp [*]
   rw [aE vD] at hk
   with_reducible refine hk _ _ _ z.au (λ_=>by decide) (λm hm=>by cases hm))
 all_goals
  have vD:rJ ⟨s,⟨xv,xs⟩⟩=false:=by unfold rJ;simp [*]
  rw [az (by rw [vD];decide)] at hk
  obtain ⟨A1,me⟩:∃ A,A=h'.size+0:=⟨_,rfl⟩
  obtain ⟨A2,ra⟩:∃ A,A=h'.size+1:=⟨_,rfl⟩
  have rH:=z.size
  refine lg (λh' x hq=>?_)
  have q1:=hq 0 _ rfl
  have q2:=hq 1 _ rfl
  clear hq
  (replace z:=z.aj x;replace q0:=q0.over x;rw [ao h'])
  rw [<- ra] at q2
  rw [<- me,<- ra]
  clear q0 q1
  have q2l:=q2.lt
  obtain ⟨I1,aO⟩:∃ I:Nat->Env->Heap->Prop,I=(λn e h'=>∃ (i:Nat) (w:ae) (A:Nat) (h1:Heap),h'=h1.lay [] h1.low/\Ext h h1/\(n=l.length - i/\i<=l.length/\Ow aJ.bind h h1 195 A w (qN (l.take i) [⟨s,⟨xv,xs⟩⟩])/\A≠A2/\Holds h1 A2 (.row (aN.cells ⟨s,⟨xv,xs⟩⟩) 195 false))/\∃ J:Nat->ae,e=(v::jr J 1 10 (w::.slice (some ⟨A2,0,none⟩) 1 1::.int .i64 i::jr J 14 59 ([])))):=⟨_,rfl⟩
  refine cK I1 _ (by rw [aO];exact ⟨0,.slice none 0 0,A2+1,_,rfl,z,⟨rfl,by omega,Ow.nil (by omega),by omega,q2⟩,bc⟩) ?_
  intro n e h' aK
  rw [aO] at aK
  obtain ⟨i,w,A,bD,rfl,z,hinv,J,rfl⟩:=aK
  clear q2
  obtain ⟨rfl,hi,ho,FQ,q2⟩:=hinv
  have hw:=dE i (by omega)
  have hz:=z.size
  have hlen:(qN (l.take i) [⟨s,⟨xv,xs⟩⟩]).length<=900:=by unfold qN;rw [fV,fj];omega
  simp only [aa,seval,sj,cO]
  refine bg (λaP=>?_) (λaP=>?_)
  rotate_left
  .rw [fX (by omega)] at ho
   have OW:Holds bD A2 (.row [.string s,.bool xv,.string xs] 195 false):=q2
   repeat' (simp only [aa,seval,sj,OW.lay])
   refine zC2 _ w ⟨s,⟨xv,xs⟩⟩ _ ((ho.sl (by decide)).lay _ _) (by unfold qN;rw [fV];omega) _ (λh' w2 A2 x ph=>?_)
   replace ph:=UZ (h0:=h) ph (by rw [bf];omega)
   (replace z:=z.aj x;replace q2:=q2.over x;replace ho:=ho.over x;rw [ao h'])
   repeat' (simp only [aa,seval,sj])
   exact hk _ _ _ z.au (λhm=>by cases hm) (λm hm=>by cases hm;exact ⟨rfl,_,ph.mono (b8.lay _ _ _)⟩)
  obtain ⟨r,hr,bM⟩:=eb (l:=l) (i:=i) aP
  repeat' (first|simp only [aa,seval,sj]|with_reducible refine cZ (by simp only [sj]) z.au ?_|with_reducible refine sS (hl.mono z.inc) dm mO (by omega) hr (λp hp=>?_)|with_reducible refine qY hp qJ (λq hq=>?_)|with_reducible refine xP hp wW (λp hp=>?_)|with_reducible refine fo hq gU ?_|with_reducible refine Cq hp oo fK ?_)
  refine ztq [⟨s,⟨xv,xs⟩⟩] _ r.term _ ((zC9 q2).lay _ _) (by simp) _ (λh' x=>?_)
  (((with_reducible refine di ?_ ?_ ?_);(· exact (by (simp only [dp]);have:=z.size;omega));(· exact x));replace z:=z.aj x;replace q2:=q2.over x;replace ho:=ho.over x;rw [ao h'])
  simp only [aa,seval,sj,zsW,Rs,zjs]
  refine tS (by have:=z.size;omega) (by omega) ?_
  simp only [cR,seval,sj,ja,zK]
  have zU:(h'.lay [bh.row (aN.cells ⟨r.var,mP [⟨s,⟨xv,xs⟩⟩] r.term⟩) 195 false] (h'.size+1)).size=h'.size+1:=by rw [bf];rfl
  have TG:=z.size
  have rq:=ho.fresh
  have apE:=q2.lt
  obtain ⟨ka,gu⟩:=CO (A:=A) (r:=aJ.bind) (c:=1) (y:=⟨r.var,mP [⟨s,⟨xv,xs⟩⟩] r.term⟩) (by decide) (show (h'.lay [bh.row (aN.cells ⟨r.var,mP [⟨s,⟨xv,xs⟩⟩] r.term⟩) 195 false] (h'.size+1)).get (h'.size+0)=some (.row (aN.cells ⟨r.var,mP [⟨s,⟨xv,xs⟩⟩] r.term⟩) 195 false) by rw [gH];rfl) rfl
  obtain ⟨w',Dw,A'',e1,e2,e3,e4,e5⟩:=tX (t:=62) dm vU rfl (by decide) (by rw [zU];omega) (ho.mono (b8.lay _ _ _)) ka gu (by omega) (by omega)
  rw [e1]
  simp only [syms,seval]
  refine mW (A:=A) (by kernel_rfl) (by rw [bf];omega) (by omega) (by simpa only [bG,bf,bu,de,dr,iu] using e3) ?_
  have q3:=q2.bj e3 (Ne.symm FQ)
  replace z:=(z.je [bh.row (aN.cells ⟨r.var,mP [⟨s,⟨xv,xs⟩⟩] r.term⟩) 195 false] (h'.size+1) (by omega)).step e3 rq
  have nZ:qN (l.take (i+1)) [⟨s,⟨xv,xs⟩⟩]=qN (l.take i) [⟨s,⟨xv,xs⟩⟩]++[⟨r.var,mP [⟨s,⟨xv,xs⟩⟩] r.term⟩]:=by rw [nT,bM];unfold qN;rw [AU];rfl
  rw [<- nZ] at e2
  rw [zU] at e4
  clear ho q2
  rw [ao Dw]
  repeat' (first|simp only [aa,seval,sj]|((with_reducible refine ⟨z.bZ.lay _ _,?_⟩);(intro _ h' zz x _);(simp only [bG,bu] at x);replace e2:=e2.over x;replace q3:=q3.over x;(replace z:=zz);(clear zz);rw [ao h']))
  rw [hw]
  (rw [aO];with_reducible refine bS (m:=_) ?_ ⟨i+1,_,_,_,rfl,z,⟨rfl,by omega,e2,by omega,q3⟩,bc⟩;omega)
theorem zxO (a b:ak) (h:Heap) (K:aG)
 (hk:∀ h',Ext h h'->K (.bool (rU a b)) h'):Ok prog aA ov 85 [a.val,b.val] h K:=by
 rw [ao h]
 have z:=Ext.refl h
 refine Ok.aq 32 (bm N85) ?_
 simp only [aa,seval,c85,ak.val,ak.cells]
 repeat' (((with_reducible first|apply bg|apply lz) <;> intro _) <;> simp only [aa,seval,c85])
 all_goals first
  |(have e:rU a b=true:=by
     unfold rU
     simp only [dP,gY]
     refine ⟨?_,?_,?_,?_,?_⟩ <;> first|assumption|omega
    rw [e] at hk
    exact hk _ z.au)
  |(have e:rU a b=false:=by
     cases he:rU a b
     .rfl
     .exfalso
      unfold rU at he
      simp only [dP,gY] at he
      obtain ⟨e1,e2,e3,e4,e5⟩:=he
      first|contradiction|omega
    rw [e] at hk
    exact hk _ z.au)
end Go.Proofs.YtkgojconmeeegaaGreatDoor
