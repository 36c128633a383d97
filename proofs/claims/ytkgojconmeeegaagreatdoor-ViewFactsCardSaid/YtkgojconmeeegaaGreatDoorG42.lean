/- Walks: a policy's clauses. Written out by fill2.py. No condition. -/
import Derived.Test.YtkgojconmeeegaaGreatDoorG40
import Derived.Test.YtkgojconmeeegaaGreatDoorG41
set_option linter.unusedSimpArgs false
set_option linter.unusedVariables false
set_option maxRecDepth 100000
set_option maxHeartbeats 0
namespace Go.Proofs.YtkgojconmeeegaaGreatDoor
open Go.Am Tryz
theorem zm3 (d:aw) (a:ak) (p0 p1 p2 p5 p6:ae) (q b:Int) (h:Heap) (bn:(dw p0 p1 p2 p5 p6 q b).all Am.one=true) (hd:ej h p0 p1 p2 p5 p6 d) (K:aG) (oZ:gN a->∀ h',Ext h h'->K (.int .i64 0) h') (iJ:∀ c h',c≠0->Ext h h'->K (.int .i64 c) h'):Ok prog aA ov 104 [gC p0 p1 p2 p5 p6 q b,a.val] h K:=by
 rw [ao h]
 have z:=Ext.refl h
 refine Ok.aq 31 (bm Kq) ?_
 repeat' (simp only [aa,seval,tg,jG,fA,↓dW,dO,da])
 refine zym a _ _ (λhv h' x=>?_) (λc h' hc x=>?_)
 rotate_left
 ·(replace z:=z.aj x;rw [ao h'])
  repeat' (first|simp only [aa,seval,tg]|((with_reducible apply im) <;> intro _))
  all_goals first
   |exact iJ _ _ hc z.au
   |(exfalso;omega)
 have q0:=Holds.top (i:=0) x rfl
 have e0:=Holds.top (i:=1) x rfl
 (replace z:=z.aj x;rw [ao h'])
 repeat' (simp only [aa,seval,tg,q0.lay,e0.lay,↓fN,fw,eU,zq9])
 refine CM d.ah a.says _ _ _ _ _ _ _ _ ((hd.s0.mono z.inc).lay _ _) _ (λh' x=>?_)
 (replace z:=z.aj x;replace q0:=q0.over x;replace e0:=e0.over x;rw [ao h'])
 cases hh:fR d.ah a.says
 .repeat' (first|simp only [aa,seval,tg]|((with_reducible apply bI);(· rfl)))
  exact iJ _ _ (by decide) z.au
 repeat' (first|simp only [aa,seval,tg,q0.lay,e0.lay,↓fN,fw,eU,zwP]|((with_reducible apply bI);(· rfl)))
 refine zpw d.cp a.pred _ _ _ _ _ _ _ _ ((hd.s1.mono z.inc).lay _ _) _ (λnn bb h' x=>?_)
 (replace z:=z.aj x;replace q0:=q0.over x;replace e0:=e0.over x;rw [ao h'])
 cases bb
 .repeat' (first|simp only [aa,seval,tg]|((with_reducible apply bI);(· rfl)))
  exact iJ _ _ (by decide) z.au
 repeat' (first|simp only [aa,seval,tg,e0.lay,UY]|((with_reducible apply im) <;> intro _)|((with_reducible apply bI);(· rfl)))
 .exact iJ _ _ (by decide) z.au
 .exact oZ hv _ z.au
theorem zlJ (d:aw) (a:ak) (l:aW) (v:ae) (p0 p1 p2 p5 p6:ae) (q b:Int) (h:Heap) (bn:(dw p0 p1 p2 p5 p6 q b).all Am.one=true) (hd:ej h p0 p1 p2 p5 p6 d) (hl:Sl aJ.atom h v l) (K:aG) (oZ:gN a->(∀ x∈l,gN x)->l.length<=6->∀ h',Ext h h'->K (.int .i64 0) h') (iJ:∀ c h',c≠0->Ext h h'->K (.int .i64 c) h'):Ok prog aA ov 102 [gC p0 p1 p2 p5 p6 q b,a.val,v] h K:=by
 rw [ao h]
 have z:=Ext.refl h
 have cO:=λ(hh:Heap)=>hl.bt bC hh
 refine Ok.aq 30 (bm Ko) ?_
 repeat' (simp only [aa,seval,pB,jG,fA,↓fN,fw,eU,↓dW,dO,da])
 refine zm3 d a _ _ _ _ _ _ _ _ bn (hd.lay _ _) _ (λhv h' x=>?_) (λc h' hc x=>?_)
 rotate_left
 ·(replace z:=z.aj x;rw [ao h'])
  repeat' (first|simp only [aa,seval,pB]|((with_reducible apply im) <;> intro _))
  all_goals first
   |exact iJ _ _ hc z.au
   |(exfalso;omega)
 have q0:=Holds.top (i:=0) x rfl
 (replace z:=z.aj x;rw [ao h'])
 obtain ⟨A0,dK⟩:∃ A0,A0=h.size+0:=⟨_,rfl⟩
 rw [<- dK] at q0
 rw [<- dK]
 repeat' (first|simp only [aa,seval,pB,cO]|((with_reducible apply bg) <;> intro _))
 .exact iJ _ _ (by decide) z.au
 obtain ⟨I1,aO⟩:∃ I:Nat->Env->Heap->Prop,I=(λn e h'=>∃ (i:Nat) (h1:Heap),h'=h1.lay [] h1.low/\Ext h h1/\(n=l.length - i/\i<=l.length/\(∀ x∈l.take i,gN x)/\Holds h1 A0 (.row (dw p0 p1 p2 p5 p6 q b) 28 false))/\∃ J:Nat->ae,e=(jr J 0 2 (v::.pointer (some ⟨A0,0,none⟩)::jr J 4 4 (.int .i64 i::jr J 9 24 ([]))))):=⟨_,rfl⟩
 refine cK I1 _ (by rw [aO];exact ⟨0,_,rfl,z,⟨rfl,by omega,by simp,q0⟩,bc⟩) ?_
 intro n e h' aK
 rw [aO] at aK
 obtain ⟨i,bD,rfl,z,hinv,J,rfl⟩:=aK
 clear q0
 obtain ⟨rfl,hi,aC,q0⟩:=hinv
 have hw:=dE i (by omega)
 simp only [aa,seval,pB,cO]
 refine bg (λaP=>?_) (λaP=>?_)
 rotate_left
 .rw [fX (by omega)] at aC
  repeat' (simp only [aa,seval,pB])
  exact oZ hv aC (by omega) _ z.au
 obtain ⟨r,hr,bM⟩:=eb (l:=l) (i:=i) (by omega)
 repeat' (first|simp only [aa,seval,pB,q0.lay,↓fN,fw,eU]|with_reducible refine cZ (by simp only [pB]) z.au ?_|with_reducible refine mM (hl.mono z.inc) bC bE (by omega) hr (λp hp=>?_)|with_reducible refine ly hp eK bE ?_)
 refine zm3 d r _ _ _ _ _ _ _ _ bn ((hd.mono z.inc).lay _ _) _ (λoJ h' x=>?_) (λc h' hc x=>?_)
 ·(( ((with_reducible refine di ?_ ?_ ?_);(· exact (by ( simp only [dp] );have:=z.size;omega));(·  exact x )) );replace z:=z.aj x;( replace q0:=q0.over x );rw [ao h'])
  repeat' (first|simp only [aa,seval,pB]|((with_reducible refine ⟨z.bZ.lay _ _,?_⟩);(intro _ h' zz x _);(simp only [bG,bu] at x);replace q0:=q0.over x;(replace z:=zz);(clear zz);rw [ao h']))
  rw [hw]
  (rw [aO];with_reducible refine bS (m:=_) ?_ ⟨i+1,_,rfl,z,⟨rfl,by omega,mL (i:=i) (P:=gN) bM aC oJ,q0⟩,bc⟩;omega)
 ·(( ((with_reducible refine di ?_ ?_ ?_);(· exact (by ( simp only [dp] );have:=z.size;omega));(·  exact x )) );replace z:=z.aj x;( replace q0:=q0.over x );rw [ao h'])
  repeat' (first|simp only [aa,seval,pB]|((with_reducible apply im) <;> intro _)|((with_reducible refine ⟨z.bZ.lay _ _,?_⟩);(intro _ h' zz x _);(simp only [bG,bu] at x);replace q0:=q0.over x;(replace z:=zz);(clear zz);rw [ao h']))
  all_goals first
   |exact iJ _ _ hc z.au
   |(exfalso;omega)
theorem zEL:bY prog aA .eql 4 (.bool true) (.bool true)=some (.bool true):=by kernel_rfl
theorem zEK:bY prog aA .eql 4 (.bool true) (.bool false)=some (.bool false):=by kernel_rfl
theorem zEJ:bY prog aA .eql 4 (.bool false) (.bool true)=some (.bool false):=by kernel_rfl
theorem zEI:bY prog aA .eql 4 (.bool false) (.bool false)=some (.bool true):=by kernel_rfl
theorem zwN (a:ak) (i:Nat) (hi:i < 4):a.cells[3+i*2+0]? = some (.bool (a.arg i).v):=by
 have:i=0\/i=1\/i=2\/i=3:=by omega
 rcases this with rfl|rfl|rfl|rfl <;> rfl
theorem zwO (a:ak) (i:Nat) (hi:i < 4):a.cells[3+i*2+1]? = some (.string (a.arg i).s):=by
 have:i=0\/i=1\/i=2\/i=3:=by omega
 rcases this with rfl|rfl|rfl|rfl <;> rfl
theorem zx4 (a:ak) (bv:Bool) (h:Heap) (K:aG) (hk:∀ w l h',Ext h h'->Sl aJ.str h' w l->l.length<=4->K w h'):Ok prog aA ov 191 [a.val,.bool bv] h K:=by
 rw [ao h]
 have z:=Ext.refl h
 have yg:a.cU<=4:=by unfold ak.cU;omega
 refine Ok.aq 50 (bm Ls) ?_
 repeat' (simp only [aa,seval,mx,fA])
 refine lg (λh' x hq=>?_)
 have q0:=hq 0 _ rfl
 clear hq
 (replace z:=z.aj x;rw [ao h'])
 have rH:=z.size
 obtain ⟨A0,dK⟩:∃ A0,A0=h.size+0:=⟨_,rfl⟩
 rw [<- dK] at q0
 rw [<- dK]
 have OU:=q0.lt
 obtain ⟨I1,aO⟩:∃ I:Nat->Env->Heap->Prop,I=(λn e h'=>∃ (i:Nat) (wv:ae) (A:Nat) (l:List aB) (h1:Heap),h'=h1.lay [] h1.low/\Ext h h1/\(n=a.cU - i/\i<=a.cU/\l.length<=i/\Ow aJ.str h h1 9 A wv l/\A≠A0/\Holds h1 A0 (.row a.cells 34 false))/\∃ J:Nat->ae,e=(J 0::.bool bv::.pointer (some ⟨A0,0,none⟩)::jr J 3 2 (wv::.int .i64 i::jr J 7 45 ([])))):=⟨_,rfl⟩
 refine cK I1 _ (by rw [aO];exact ⟨0,.slice none 0 0,A0+1,[],_,rfl,z,⟨rfl,by omega,by simp,Ow.nil (by omega),by omega,q0⟩,bc⟩) ?_
 intro n e h' aK
 rw [aO] at aK
 obtain ⟨i,wv,A,l,bD,rfl,z,hinv,J,rfl⟩:=aK
 clear q0
 obtain ⟨rfl,hi,DM,ow,FQ,q0⟩:=hinv
 have hw:=dE i (by omega)
 simp only [aa,seval,mx,q0.lay,↓dW,dO,da]
 refine HF a _ _ (λh' x=>?_)
 (replace z:=z.aj x;replace q0:=q0.over x;replace ow:=ow.over x;rw [ao h'])
 simp only [aa,seval,mx]
 refine bg (λaP=>?_) (λaP=>?_)
 rotate_left
 .repeat' ( simp only [aa,seval,mx])
  exact hk _ _ _ z.au ((ow.sl (by decide)).lay _ _) (by omega)
 repeat' (simp only [aa,seval,mx])
 obtain ⟨I2,ey⟩:∃ I:Nat->Env->Heap->Prop,I=(λn e h'=>∃ (k:Nat) (b:Bool) (h1:Heap),h'=h1.lay [] h1.low/\Ext h h1/\(n=i - k/\k<=i/\Ow aJ.str h h1 9 A wv l/\Holds h1 A0 (.row a.cells 34 false))/\∃ J:Nat->ae,e=(J 0::.bool bv::.pointer (some ⟨A0,0,none⟩)::jr J 3 2 (wv::.int .i64 i::.bool b::.int .i64 k::jr J 9 43 ([])))):=⟨_,rfl⟩
 refine cK I2 _ (by rw [ey];exact ⟨0,false,_,rfl,z,⟨rfl,by omega,ow,q0⟩,bc⟩) ?_
 intro n e h' aK
 rw [ey] at aK
 obtain ⟨k,b,bD,rfl,z,hinv,J,rfl⟩:=aK
 clear q0 ow
 obtain ⟨rfl,yp,ow,q0⟩:=hinv
 have qG:=dE k (by omega)
 have DK:(0:Int)<=(i:Int)/\(i:Int) < 4:=by omega
 have kE:=UG a i (by omega)
 simp only [aa,seval,mx]
 refine bg (λiZ=>?_) (λiZ=>?_)
 .have tF:(0:Int)<=(k:Int)/\(k:Int) < 4:=by omega
  have IF:=UG a k (by omega)
  cases b
  .repeat' (first|simp only [aa,seval,mx,q0.lay,DK,tF,↓kE,↓IF,zi5,zq,zi9]|with_reducible refine cZ (by simp only [mx]) z.au ?_|((with_reducible  apply bg ) <;> intro _)|((with_reducible refine ⟨z.bZ.lay _ _,?_⟩);(intro _ h' zz x _);( simp only [bG,bu] at x );( replace q0:=q0.over x );( replace ow:=ow.over x );(replace z:=zz);(clear zz);rw [ao h']))
   all_goals rw [qG]
   ·(rw [ey];with_reducible refine bS (m:=_) ?_ ⟨k+1,true,_,rfl,z,⟨rfl,by omega,ow,q0⟩,bc⟩;omega)
   ·(rw [ey];with_reducible refine bS (m:=_) ?_ ⟨k+1,false,_,rfl,z,⟨rfl,by omega,ow,q0⟩,bc⟩;omega)
  .repeat' (first|simp only [aa,seval,mx]|with_reducible refine cZ (by simp only [mx]) z.au ?_|((with_reducible refine ⟨z.bZ.lay _ _,?_⟩);(intro _ h' zz x _);( simp only [bG,bu] at x );( replace q0:=q0.over x );( replace ow:=ow.over x );(replace z:=zz);(clear zz);rw [ao h']))
   rw [qG]
   (rw [ey];with_reducible refine bS (m:=_) ?_ ⟨k+1,true,_,rfl,z,⟨rfl,by omega,ow,q0⟩,bc⟩;omega)
 have zZ:=zwN a i (by omega)
 have hcS:=zwO a i (by omega)
 have vK:IntKind.i64.wrap ((i:Int)+1)=((i+1:Nat):Int):=hw
 obtain ⟨vb,pX⟩:∃ vb,(a.arg i).v=vb:=⟨_,rfl⟩
 rw [pX] at zZ
 cases vb
 all_goals
  cases bv
  all_goals
   cases b
   all_goals
    repeat' (first|simp only [aa,seval,mx,q0.lay,DK,zZ,hcS,zEL,zEK,zEJ,zEI]|((with_reducible apply bI);(· rfl)))
 all_goals first
  |(rw [hw]
    (rw [aO];with_reducible refine bS (m:=_) ?_ ⟨i+1,wv,A,l,_,rfl,z,⟨rfl,by omega,by omega,ow,FQ,q0⟩,bc⟩;omega))
  |skip
 all_goals
  simp only [cR,seval,ja,TU]
  have zU:(bD.lay [bh.row [Value.string (a.arg i).s] 9 false] bD.low).size=bD.size+1:=by rw [bf];rfl
  obtain ⟨ka,lQ⟩:=CO (r:=aJ.str) (A:=A) (c:=1) (y:=(a.arg i).s) (by decide) (show (bD.lay [bh.row [Value.string (a.arg i).s] 9 false] bD.low).get (bD.size+0)=some (.row [Value.string (a.arg i).s] 9 false) by rw [gH];rfl) rfl
  have hz:=z.size
  obtain ⟨w',h2,A',e1,e2,e3,e4,e5⟩:=tX (t:=22) cQ Ew rfl (by decide) (by rw [zU];omega) (ow.mono (b8.lay _ _ _)) ka lQ (by omega) (by omega)
  have rq:=ow.fresh
  have OU:=q0.lt
  rw [zU] at e4
  replace z:=(z.je [bh.row [Value.string (a.arg i).s] 9 false] bD.low (by omega)).step e3 rq
  have q1:=q0.bj e3 (by omega)
  rw [e1,ao h2]
  clear q0 ow
 all_goals
  repeat' (simp only [aa,seval,mx])
  rw [hw]
  (rw [aO];with_reducible refine bS (m:=_) ?_ ⟨i+1,w',A',l++[(a.arg i).s],_,rfl,z,⟨rfl,by omega,by rw [cW,sW];omega,e2,by omega,q1⟩,bc⟩;omega)
theorem zAq (a:ak) (h:Heap) (K:aG) (hk:∀ w l h',Ext h h'->Sl aJ.str h' w l->l.length<=4->K w h'):Ok prog aA ov 154 [a.val] h K:=by
 rw [ao h]
 have z:=Ext.refl h
 refine Ok.aq 4 (bm KZ) ?_
 repeat' (simp only [aa,seval,Me,fA,↓dW,dO,da])
 refine zx4 a true _ _ (λw l h' x s hl=>?_)
 (replace z:=z.aj x;rw [ao h'])
 repeat' (simp only [aa,seval,Me])
 exact hk _ _ _ z.au (s.lay _ _) hl
theorem zzv (s:aB):od aA 31 [(0,.bool true),(1,.string s)]=some (.agg ⟨[.bool true,.string s]⟩):=by kernel_rfl
theorem zwE (a:aH) (s:aB):bY prog aA .eql 31 a.val (.agg ⟨[.bool true,.string s]⟩)=some (.bool (decide (a=⟨true,s⟩))):=zi9 a ⟨true,s⟩
theorem zvj (a:ak) (l:aW) (v:ae) (h:Heap) (hl:Sl aJ.atom h v l) (hn:l.length<=6) (Zy:∀ x∈l,gN x) (K:aG) (hk:∀ b h',Ext h h'->K (.bool b) h'):Ok prog aA ov 103 [a.val,v] h K:=by
 rw [ao h]
 have z:=Ext.refl h
 have cO:=λ(hh:Heap)=>hl.bt bC hh
 refine Ok.aq 49 (bm Kp) ?_
 repeat' (simp only [aa,seval,kc,fA,↓dW,dO,da])
 refine zAq a _ _ (λw ns h' x sn GC=>?_)
 (replace z:=z.aj x;rw [ao h'])
 repeat' (simp only [aa,seval,kc])
 have qC:=λ(hh:Heap)=>sn.bt cQ hh
 obtain ⟨I1,aO⟩:∃ I:Nat->Env->Heap->Prop,I=(λn e h'=>∃ (i:Nat) (h1:Heap),h'=h1.lay [] h1.low/\Ext h h1/\(n=ns.length - i/\i<=ns.length/\Sl aJ.str h1 w ns)/\∃ J:Nat->ae,e=(J 0::v::jr J 2 3 (w::.int .i64 i::jr J 7 44 ([])))):=⟨_,rfl⟩
 refine cK I1 _ (by rw [aO];exact ⟨0,_,rfl,z,⟨rfl,by omega,sn⟩,bc⟩) ?_
 intro n e h' aK
 rw [aO] at aK
 obtain ⟨i,bD,rfl,z,hinv,J,rfl⟩:=aK
 clear sn
 obtain ⟨rfl,hi,sn⟩:=hinv
 have fb:=dE i (by omega)
 simp only [aa,seval,kc,qC]
 refine bg (λaP=>?_) (λaP=>?_)
 rotate_left
 .repeat' ( simp only [aa,seval,kc])
  exact hk _ _ z.au
 obtain ⟨s,hs,mh⟩:=eb (l:=ns) (i:=i) (by omega)
 repeat' (simp only [aa,seval,kc])
 obtain ⟨I2,ey⟩:∃ I:Nat->Env->Heap->Prop,I=(λn e h'=>∃ (k:Nat) (b:Bool) (h1:Heap),h'=h1.lay [] h1.low/\Ext h h1/\(n=l.length - k/\k<=l.length/\Sl aJ.str h1 w ns)/\∃ J:Nat->ae,e=(J 0::v::jr J 2 3 (w::.int .i64 i::.bool b::.int .i64 k::jr J 9 42 ([])))):=⟨_,rfl⟩
 refine cK I2 _ (by rw [ey];exact ⟨0,false,_,rfl,z,⟨rfl,by omega,sn⟩,bc⟩) ?_
 intro n e h' aK
 rw [ey] at aK
 obtain ⟨k,b,bD,rfl,z,hinv,J,rfl⟩:=aK
 clear sn
 obtain ⟨rfl,yp,sn⟩:=hinv
 have qG:=dE k (by omega)
 simp only [aa,seval,kc,cO]
 refine bg (λiZ=>?_) (λiZ=>?_)
 .obtain ⟨r,hr,bM⟩:=eb (l:=l) (i:=k) (by omega)
  have oJ:=Zy _ (ig bM)
  repeat' (simp only [aa,seval,kc])
  obtain ⟨I3,lp⟩:∃ I:Nat->Env->Heap->Prop,I=(λn e h'=>∃ (m:Nat) (b:Bool) (h1:Heap),h'=h1.lay [] h1.low/\Ext h h1/\(n=4 - m/\m<=4/\Sl aJ.str h1 w ns)/\∃ J:Nat->ae,e=(J 0::v::jr J 2 3 (w::.int .i64 i::.bool b::.int .i64 k::.int .i64 m::jr J 10 41 ([])))):=⟨_,rfl⟩
  refine cK I3 _ (by rw [lp];exact ⟨0,b,_,rfl,z,⟨rfl,by omega,sn⟩,bc⟩) ?_
  intro n e h' aK
  rw [lp] at aK
  obtain ⟨m,b,bD,rfl,z,hinv,J,rfl⟩:=aK
  clear sn
  obtain ⟨rfl,hm,sn⟩:=hinv
  have TE:=dE m (by omega)
  simp only [aa,seval,kc]
  repeat' ((first|((with_reducible apply bg) <;> intro _)|with_reducible_and_instances refine mM (hl.mono z.inc) bC bE (by omega) hr (λp hp=>?_)|with_reducible_and_instances refine Wf hp w9 (λq hq=>?_)|with_reducible_and_instances refine fo hq SS ?_) <;> simp only [aa,seval,kc])
  rotate_left
  .rw [qG]
   (rw [ey];with_reducible refine bS (m:=_) ?_ ⟨k+1,b,_,rfl,z,⟨rfl,by omega,sn⟩,bc⟩;omega)
  have GA:m < 4:=by have:=oJ.hi;omega
  cases b
  rotate_left
  .repeat' ((first|with_reducible refine cZ (by simp only [kc]) z.au ?_|((with_reducible refine ⟨z.bZ.lay _ _,?_⟩);(intro _ h' zz x _);( simp only [bG,bu] at x );( replace sn:=sn.over x );(replace z:=zz);(clear zz);rw [ao h'])) <;> simp only [aa,seval,kc])
   rw [TE]
   (rw [lp];with_reducible refine bS (m:=_) ?_ ⟨m+1,true,_,rfl,z,⟨rfl,by omega,sn⟩,bc⟩;omega)
  repeat' ((first|with_reducible refine cZ (by simp only [kc]) z.au ?_|((with_reducible apply bg) <;> intro _)|with_reducible_and_instances refine mM (hl.mono z.inc) bC bE (by omega) hr (λp hp=>?_)|with_reducible_and_instances refine Wg hp zD (λp hp=>?_)|with_reducible_and_instances refine ixg hp pZ (by omega) (by omega) (λp hp=>?_)|with_reducible_and_instances refine Cq hp oo fK ?_|with_reducible_and_instances refine oT sn cQ mU (by omega) hs (λp hp=>?_)|with_reducible_and_instances refine fo hp gU ?_|((with_reducible refine ⟨z.bZ.lay _ _,?_⟩);(intro _ h' zz x _);(simp only [bG,bu] at x);replace sn:=sn.over x;(replace z:=zz);(clear zz);rw [ao h'])) <;> simp only [aa,seval,kc,zzv,zwE])
  all_goals rw [TE]
  ·(rw [lp];with_reducible refine bS (m:=_) ?_ ⟨m+1,true,_,rfl,z,⟨rfl,by omega,sn⟩,bc⟩;omega)
  ·(rw [lp];with_reducible refine bS (m:=_) ?_ ⟨m+1,false,_,rfl,z,⟨rfl,by omega,sn⟩,bc⟩;omega)
 cases b
 .repeat' (first|simp only [aa,seval,kc]|((with_reducible_and_instances apply bI);(· rfl)))
  exact hk _ _ z.au
 .repeat' (first|simp only [aa,seval,kc]|((with_reducible_and_instances apply bI);(· rfl)))
  rw [fb]
  (rw [aO];with_reducible refine bS (m:=_) ?_ ⟨i+1,_,rfl,z,⟨rfl,by omega,sn⟩,bc⟩;omega)
theorem zHg (h:Heap) (l:List bh) (w i o:Nat) (v:ae) (hi:i < l.length):iS aA 80 (.pointer (some ⟨h.size+i,o,none⟩)) v (h.lay l w)=if v.cells.size=13 then sN l[i]? i o v.cells.toList h l w else none:=wi qj h l w i o v hi
theorem zxR (d:aw) (p0 p1 p2 p5 p6:ae) (q b:Int) (h:Heap) (bn:(dw p0 p1 p2 p5 p6 q b).all Am.one=true) (hd:ej h p0 p1 p2 p5 p6 d) (hn:d.aU.length<=70) (K:aG) (hk:∀ c h',Ext h h'->K (.int .i64 c) h'):Ok prog aA ov 58 [gC p0 p1 p2 p5 p6 q b] h K:=by
 rw [ao h]
 have z:=Ext.refl h
 have tK:∀ (h:Heap) (K:aG),aD (some p5) h K=K p5 h:=λ_ _=>rfl
 have uI:∀ (h:Heap) (K:aG),aD (some p6) h K=K p6 h:=λ_ _=>rfl
 have BS:=λ(hh:Heap)=>hd.s5.bt ni hh
 have yw:=λ(hh:Heap)=>hd.s6.bt oC hh
 have aol:=hd.s5.le
 have aom:=hd.s6.le
 refine Ok.aq 133 (bm N58) ?_
 repeat' (simp only [aa,seval,mz,jG,↓fN,fw,eU])
 refine zx9 d.ah _ _ _ _ _ _ _ _ (hd.s0.lay _ _) _ (λc h' x=>?_)
 have q0:=Holds.top (i:=0) x rfl
 (replace z:=z.aj x;rw [ao h'])
 obtain ⟨A0,dK⟩:∃ A0,A0=h.size+0:=⟨_,rfl⟩
 rw [<- dK] at q0
 rw [<- dK]
 by_cases hc:c=0
 rotate_left
 .repeat' (first|simp only [aa,seval,mz]|((with_reducible first|apply lz|apply im ) <;> intro _))
  all_goals first
   |exact hk _ _ z.au
   |(exfalso;omega)
 subst hc
 repeat' (simp only [aa,seval,mz,q0.lay,↓fN,fw,eU])
 refine zx8 d.cp _ _ _ _ _ _ _ _ ((hd.s1.mono z.inc).lay _ _) _ (λc h' x=>?_)
 (replace z:=z.aj x;replace q0:=q0.over x;rw [ao h'])
 by_cases hc:c=0
 rotate_left
 .repeat' (first|simp only [aa,seval,mz]|((with_reducible first|apply lz|apply im ) <;> intro _))
  all_goals first
   |exact hk _ _ z.au
   |(exfalso;omega)
 subst hc
 repeat' (simp only [aa,seval,mz,q0.lay,↓fN,fw,eU])
 refine zu4 d _ _ _ _ _ _ _ _ bn ((hd.mono z.inc).lay _ _) hn _ (λc h' x=>?_)
 (replace z:=z.aj x;replace q0:=q0.over x;rw [ao h'])
 by_cases hc:c=0
 rotate_left
 .repeat' (first|simp only [aa,seval,mz]|((with_reducible  apply im ) <;> intro _))
  all_goals first
   |exact hk _ _ z.au
   |(exfalso;omega)
 subst hc
 repeat' (first|simp only [aa,seval,mz,q0.lay,Ha,OS,oP,qe,tK,uI,BS,yw]|((with_reducible apply bg) <;> intro _))
 iterate 7 (· exact hk _ _ z.au)
 have e5:d.rules.length<=64:=by omega
 have e6:d.bO.length<=64:=by omega
 obtain ⟨I1,aO⟩:∃ I:Nat->Env->Heap->Prop,I=(λn e h'=>∃ (i:Nat) (h1:Heap),h'=h1.lay [] h1.low/\Ext h h1/\(n=d.rules.length - i/\i<=d.rules.length/\Holds h1 A0 (.row (dw p0 p1 p2 p5 p6 q b) 28 false))/\∃ J:Nat->ae,e=(J 0::.pointer (some ⟨A0,0,none⟩)::jr J 2 2 (.int .i64 i::jr J 5 129 ([])))):=⟨_,rfl⟩
 refine cK I1 _ (by rw [aO];exact ⟨0,_,rfl,z,⟨rfl,by omega,q0⟩,bc⟩) ?_
 intro n e h' aK
 rw [aO] at aK
 obtain ⟨i,bD,rfl,z,hinv,J,rfl⟩:=aK
 clear q0
 obtain ⟨rfl,hi,q0⟩:=hinv
 have hw:=dE i (by omega)
 simp only [aa,seval,mz,q0.lay,oP,tK,BS]
 refine bg (λaP=>?_) (λaP=>?_)
 .obtain ⟨r,hr,bM⟩:=eb (l:=d.rules) (i:=i) (by omega)
  repeat' (first|simp only [aa,seval,mz,q0.lay,↓fN,fw,eU,oP,tK]|with_reducible refine cZ (by simp only [mz]) z.au ?_|with_reducible_and_instances refine Sw (hd.s5.mono z.inc) ni rL (by omega) hr (λp bv hb hp=>?_)|with_reducible_and_instances refine FH hp HZ (λqq hq=>?_)|with_reducible_and_instances refine ly hq eK bE ?_|with_reducible_and_instances refine FJ hp H2 (λqq hq=>?_)|with_reducible_and_instances refine fo hq ta ?_)
  refine zlJ d r.head r.body bv _ _ _ _ _ _ _ _ bn ((hd.mono z.inc).lay _ _) (hb.lay _ _) _ (λhvh pX Tu h' x=>?_) (λc h' hc x=>?_)
  rotate_left
  ·(( ((with_reducible refine di ?_ ?_ ?_);(· exact (by ( simp only [dp] );have:=z.size;omega));(·  exact x )) );replace z:=z.aj x;( replace q0:=q0.over x );rw [ao h'])
   repeat' (first|simp only [aa,seval,mz]|with_reducible refine cZ (by simp only [mz]) z.au ?_|((with_reducible first|apply lz|apply im) <;> intro _)|((with_reducible refine ⟨z.bZ.lay _ _,?_⟩);(intro _ h' zz x _);(simp only [bG,bu] at x);replace q0:=q0.over x;(replace z:=zz);(clear zz);rw [ao h']))
   all_goals first
    |exact hk _ _ z.au
    |(exfalso;omega)
  (((with_reducible refine di ?_ ?_ ?_);(· exact (by (simp only [dp]);have:=z.size;omega));(· exact x));replace z:=z.aj x;replace q0:=q0.over x;rw [ao h'])
  clear hb
  repeat' (first|simp only [aa,seval,mz,q0.lay,oP,tK]|with_reducible refine cZ (by simp only [mz]) z.au ?_|with_reducible_and_instances refine Sw (hd.s5.mono z.inc) ni rL (by omega) hr (λp bv hb hp=>?_)|with_reducible_and_instances refine FH hp HZ (λqq hq=>?_)|with_reducible_and_instances refine ly hq eK bE ?_|with_reducible_and_instances refine FJ hp H2 (λqq hq=>?_)|with_reducible_and_instances refine fo hq ta ?_|((with_reducible refine ⟨z.bZ.lay _ _,?_⟩);(intro _ h' zz x _);(simp only [bG,bu] at x);replace q0:=q0.over x;(replace z:=zz);(clear zz);rw [ao h']))
  refine zvj r.head r.body bv _ (hb.lay _ _) Tu pX _ (λbb h' x=>?_)
  (((with_reducible refine di ?_ ?_ ?_);(· exact (by (simp only [dp]);have:=z.size;omega));(· exact x));replace z:=z.aj x;replace q0:=q0.over x;rw [ao h'])
  cases bb
  .repeat' (first|simp only [aa,seval,mz]|((with_reducible_and_instances apply bI);(· rfl))|((with_reducible refine ⟨z.bZ.lay _ _,?_⟩);(intro _ h' zz x _);( simp only [bG,bu] at x );( replace q0:=q0.over x );(replace z:=zz);(clear zz);rw [ao h']))
   exact hk _ _ z.au
  .repeat' (first|simp only [aa,seval,mz]|((with_reducible_and_instances apply bI);(· rfl))|((with_reducible refine ⟨z.bZ.lay _ _,?_⟩);(intro _ h' zz x _);( simp only [bG,bu] at x );( replace q0:=q0.over x );(replace z:=zz);(clear zz);rw [ao h']))
   rw [hw]
   (rw [aO];with_reducible refine bS (m:=_) ?_ ⟨i+1,_,rfl,z,⟨rfl,by omega,q0⟩,bc⟩;omega)
 clear hi aP hw
 simp only [aa,seval,mz]
 obtain ⟨I2,ey⟩:∃ I:Nat->Env->Heap->Prop,I=(λn e h'=>∃ (i:Nat) (h1:Heap),h'=h1.lay [] h1.low/\Ext h h1/\(n=d.bO.length - i/\i<=d.bO.length/\Holds h1 A0 (.row (dw p0 p1 p2 p5 p6 q b) 28 false))/\∃ J:Nat->ae,e=(J 0::.pointer (some ⟨A0,0,none⟩)::jr J 2 3 (.int .i64 i::jr J 6 128 ([])))):=⟨_,rfl⟩
 refine cK I2 _ (by rw [ey];exact ⟨0,_,rfl,z,⟨rfl,by omega,q0⟩,bc⟩) ?_
 intro n e h' aK
 rw [ey] at aK
 obtain ⟨i,bD,rfl,z,hinv,J,rfl⟩:=aK
 clear q0
 obtain ⟨rfl,hi,q0⟩:=hinv
 have hw:=dE i (by omega)
 simp only [aa,seval,mz,q0.lay,qe,uI,yw]
 refine bg (λaP=>?_) (λaP=>?_)
 rotate_left
 .repeat' ( simp only [aa,seval,mz])
  exact hk _ _ z.au
 obtain ⟨r,hr,bM⟩:=eb (l:=d.bO) (i:=i) (by omega)
 repeat' (first|simp only [aa,seval,mz,q0.lay,qe,uI,iR,gL,Am.one,Bool.true_and,gX,zHg]|with_reducible_and_instances refine Vc (hd.s6.mono z.inc) oC qj (by omega) hr (λp bv hb hp=>?_)|with_reducible_and_instances refine ldG hp Ff qj ?_)
 have hob:(r.head.cells++[bv]).all Am.one=true:=by have:=hb.one;simp only [ak.cells,List.all_append,gL,ij,this];rfl
 have Gx:(r.head.cells++[bv]).length=12:=rfl
 have hbv:∀ (h:Heap) (K:aG),aD (some bv) h K=K bv h:=λ_ _=>rfl
 have YA:(Value.string r.to::(r.head.cells++[bv]))[0]? = some (.string r.to):=rfl
 have DI:(Value.string r.to::(r.head.cells++[bv]))[1]? = some (.string r.head.says):=rfl
 have YB:(Value.string r.to::(r.head.cells++[bv]))[12]? = some bv:=rfl
 have hgc:cut (Value.string r.to::(r.head.cells++[bv])) 1 11=some r.head.cells:=rfl
 rw [aE Gx,aE (by rw [Gx,hob];rfl),show (Value.string r.to::(r.head.cells++bv::List.drop (r.head.cells++[bv]).length [Value.string ⟨#[]⟩,Value.string ⟨#[]⟩,Value.int IntKind.i64 0,Value.bool false,Value.string ⟨#[]⟩,Value.bool false,Value.string ⟨#[]⟩,Value.bool false,Value.string ⟨#[]⟩,Value.bool false,Value.string ⟨#[]⟩,Value.slice none 0 0]))=Value.string r.to::(r.head.cells++[bv]) from rfl]
 repeat' (simp only [aa,seval,mz,q0.lay,↓fN,fw,eU])
 refine CM d.ah r.to _ _ _ _ _ _ _ _ ((hd.s0.mono z.inc).lay _ _) _ (λh' x=>?_)
 have g0:=Holds.top (i:=0) x rfl
 (replace z:=z.aj x;replace q0:=q0.over x;replace hb:=hb.over x;rw [ao h'])
 obtain ⟨A1,me⟩:∃ A1,A1=bD.size+0:=⟨_,rfl⟩
 rw [<- me] at g0
 rw [<- me]
 cases hh:fR d.ah r.to
 .repeat' (first|simp only [aa,seval,mz]|((with_reducible_and_instances apply bI);(· rfl)))
  exact hk _ _ z.au
 repeat' (first|simp only [aa,seval,mz,g0.lay,YA,DI,q0.lay,↓fN,fw,eU,↓hgc,dO,da,YB,hbv]|((with_reducible apply bg) <;> intro _)|((with_reducible_and_instances apply bI);(· rfl)))
 .exact hk _ _ z.au
 refine zlJ d r.head r.body bv _ _ _ _ _ _ _ _ bn ((hd.mono z.inc).lay _ _) (hb.lay _ _) _ (λhvh pX Tu h' x=>?_) (λc h' hc x=>?_)
 rotate_left
 ·(replace z:=z.aj x;( replace q0:=q0.over x );( replace g0:=g0.over x );( replace hb:=hb.over x );rw [ao h'])
  repeat' (first|simp only [aa,seval,mz]|((with_reducible apply im) <;> intro _))
  all_goals first
   |exact hk _ _ z.au
   |(exfalso;omega)
 (replace z:=z.aj x;replace q0:=q0.over x;replace g0:=g0.over x;replace hb:=hb.over x;rw [ao h'])
 repeat' (simp only [aa,seval,mz])
 rw [hw]
 (rw [ey];with_reducible refine bS (m:=_) ?_ ⟨i+1,_,rfl,z,⟨rfl,by omega,q0⟩,bc⟩;omega)
end Go.Proofs.YtkgojconmeeegaaGreatDoor
