/- Walks: a policy's clauses. Written out by fill2.py. No condition. -/
import Derived.Test.YtiapegieocgmfaaGreatDoorG42
import Derived.Test.YtiapegieocgmfaaGreatDoorG43
set_option linter.unusedSimpArgs false
set_option linter.unusedVariables false
set_option maxRecDepth 100000
set_option maxHeartbeats 0
namespace Go.Proofs.YtiapegieocgmfaaGreatDoor
open Go.Am Tryz
theorem zmY (d:aq) (a:ak) (p0 p1 p2 p5 p6:ab) (q b:Int) (h:Heap) (bf:(du p0 p1 p2 p5 p6 q b).all Am.one=true) (hd:dR h p0 p1 p2 p5 p6 d) (K:aF) (o9:gO a->∀ h',Ext h h'->K (.int .i64 0) h') (iV:∀ c h',c≠0->Ext h h'->K (.int .i64 c) h'):Ok prog aD ov 82 [fI p0 p1 p2 p5 p6 q b,a.val] h K:=by
 rw [ao h]
 have z:=Ext.refl h
 refine Ok.aw 31 (bq N82) ?_
 repeat' (simp only [aa,seval,Fk,gZ,eE,↓eY,eJ,dX])
 refine zw9 a _ _ (λhv h' x=>?_) (λc h' hc x=>?_)
 rotate_left
 ·(replace z:=z.an x;rw [ao h'])
  repeat' (first|simp only [aa,seval,Fk]|((with_reducible apply gg) <;> intro _))
  all_goals first
   |exact iV _ _ hc z.aA
   |(exfalso;omega)
 have q0:=Holds.top (i:=0) x rfl
 have e0:=Holds.top (i:=1) x rfl
 (replace z:=z.an x;rw [ao h'])
 repeat' (simp only [aa,seval,Fk,q0.lay,e0.lay,↓fA,eV,eI,Jx,QC,Ec])
 refine HF d.ah a.says _ _ _ _ _ _ _ _ ((hd.s0.mono z.inc).lay _ _) _ (λh' x=>?_)
 (replace z:=z.an x;replace q0:=q0.over x;replace e0:=e0.over x;rw [ao h'])
 cases hh:iM d.ah a.says
 .repeat' (first|simp only [aa,seval,Fk,kW]|((with_reducible apply bX);(· rfl)))
  exact iV _ _ (by decide) z.aA
 repeat' (first|simp only [aa,seval,Fk,fQ,q0.lay,e0.lay,↓fA,eV,eI,Jx,QC,Ec]|((with_reducible apply bX);(· rfl)))
 refine zo1 d.bZ a.pred _ _ _ _ _ _ _ _ ((hd.s1.mono z.inc).lay _ _) _ (λnn bb h' x=>?_)
 (replace z:=z.an x;replace q0:=q0.over x;replace e0:=e0.over x;rw [ao h'])
 cases bb
 .repeat' (first|simp only [aa,seval,Fk,kW]|((with_reducible apply bX);(· rfl)))
  exact iV _ _ (by decide) z.aA
 repeat' (first|simp only [aa,seval,Fk,fQ,e0.lay,Ec]|((with_reducible apply gg) <;> intro _)|((with_reducible apply bX);(· rfl)))
 .exact iV _ _ (by decide) z.aA
 .exact o9 hv _ z.aA
theorem zlA (d:aq) (a:ak) (l:aS) (v:ab) (p0 p1 p2 p5 p6:ab) (q b:Int) (h:Heap) (bf:(du p0 p1 p2 p5 p6 q b).all Am.one=true) (hd:dR h p0 p1 p2 p5 p6 d) (hl:Sl aM.atom h v l) (K:aF) (o9:gO a->(∀ x∈l,gO x)->l.length<=6->∀ h',Ext h h'->K (.int .i64 0) h') (iV:∀ c h',c≠0->Ext h h'->K (.int .i64 c) h'):Ok prog aD ov 79 [fI p0 p1 p2 p5 p6 q b,a.val,v] h K:=by
 rw [ao h]
 have z:=Ext.refl h
 have bR:∀ (h:Heap) (K:aF),aC (some v) h K=K v h:=λ_ _=>rfl
 have df:=λ(hh:Heap)=>hl.bo bJ hh
 refine Ok.aw 30 (bq N79) ?_
 repeat' (simp only [aa,seval,Bm,gZ,eE,↓fA,eV,eI,↓eY,eJ,dX,bR])
 refine zmY d a _ _ _ _ _ _ _ _ bf (hd.lay _ _) _ (λhv h' x=>?_) (λc h' hc x=>?_)
 rotate_left
 ·(replace z:=z.an x;rw [ao h'])
  repeat' (first|simp only [aa,seval,Bm]|((with_reducible apply gg) <;> intro _))
  all_goals first
   |exact iV _ _ hc z.aA
   |(exfalso;omega)
 have q0:=Holds.top (i:=0) x rfl
 (replace z:=z.an x;rw [ao h'])
 obtain ⟨A0,el⟩:∃ A0,A0=h.size+0:=⟨_,rfl⟩
 rw [<- el] at q0
 rw [<- el]
 repeat' (first|simp only [aa,seval,Bm,bR,df]|((with_reducible apply bn) <;> intro _))
 .exact iV _ _ (by decide) z.aA
 obtain ⟨I1,aU⟩:∃ I:Nat->Env->Heap->Prop,I=(λn e h'=>∃ (i:Nat) (h1:Heap),h'=h1.lay [] h1.low/\Ext h h1/\(n=l.length - i/\i<=l.length/\(∀ x∈l.take i,gO x)/\Holds h1 A0 (.row (du p0 p1 p2 p5 p6 q b) 28 false))/\∃ J:Nat->ab,e=(jr J 0 2 (v::.pointer (some ⟨A0,0,none⟩)::jr J 4 4 (.int .i64 i::jr J 9 24 ([]))))):=⟨_,rfl⟩
 refine dA I1 _ (by rw [aU];exact ⟨0,_,rfl,z,⟨rfl,by omega,by simp,q0⟩,bl⟩) ?_
 intro n e h' aO
 rw [aU] at aO
 obtain ⟨i,bC,rfl,z,hinv,J,rfl⟩:=aO
 clear q0
 obtain ⟨rfl,hi,aH,q0⟩:=hinv
 have hw:=ei i (by omega)
 simp only [aa,seval,Bm,bR,df]
 refine bn (λaT=>?_) (λaT=>?_)
 rotate_left
 .rw [gE (by omega)] at aH
  repeat' (simp only [aa,seval,Bm])
  exact o9 hv aH (by omega) _ z.aA
 obtain ⟨r,hr,cw⟩:=eW (l:=l) (i:=i) (by omega)
 repeat' (first|simp only [aa,seval,Bm,q0.lay,↓fA,eV,eI,bR]|with_reducible refine dL (by simp only [Bm]) z.aA ?_|with_reducible refine qI (hl.mono z.inc) bJ bH (by omega) hr (λp hp=>?_)|with_reducible refine ma hp eP bH ?_)
 refine zmY d r _ _ _ _ _ _ _ _ bf ((hd.mono z.inc).lay _ _) _ (λoc h' x=>?_) (λc h' hc x=>?_)
 ·(( ((with_reducible refine cU ?_ ?_ ?_);(· exact (by ( simp only [ck] );have:=z.size;omega));(·  exact x )) );replace z:=z.an x;( replace q0:=q0.over x );rw [ao h'])
  repeat' (first|simp only [aa,seval,Bm]|((with_reducible refine ⟨z.cn.lay _ _,?_⟩);(intro _ h' zz x _);(simp only [bM,bu] at x);replace q0:=q0.over x;(replace z:=zz);(clear zz);rw [ao h']))
  rw [hw]
  (rw [aU];with_reducible refine cy (m:=_) ?_ ⟨i+1,_,rfl,z,⟨rfl,by omega,qH (i:=i) (P:=gO) cw aH oc,q0⟩,bl⟩;omega)
 ·(( ((with_reducible refine cU ?_ ?_ ?_);(· exact (by ( simp only [ck] );have:=z.size;omega));(·  exact x )) );replace z:=z.an x;( replace q0:=q0.over x );rw [ao h'])
  repeat' (first|simp only [aa,seval,Bm]|((with_reducible apply gg) <;> intro _)|((with_reducible refine ⟨z.cn.lay _ _,?_⟩);(intro _ h' zz x _);(simp only [bM,bu] at x);replace q0:=q0.over x;(replace z:=zz);(clear zz);rw [ao h']))
  all_goals first
   |exact iV _ _ hc z.aA
   |(exfalso;omega)
theorem zDh:cz prog aD .eql 4 (.bool true) (.bool true)=some (.bool true):=by kernel_rfl
theorem zDg:cz prog aD .eql 4 (.bool true) (.bool false)=some (.bool false):=by kernel_rfl
theorem zDf:cz prog aD .eql 4 (.bool false) (.bool true)=some (.bool false):=by kernel_rfl
theorem zDe:cz prog aD .eql 4 (.bool false) (.bool false)=some (.bool true):=by kernel_rfl
theorem zvJ (a:ak) (i:Nat) (hi:i < 4):a.cells[3+i*2+0]? = some (.bool (a.arg i).v):=by
 have:i=0\/i=1\/i=2\/i=3:=by omega
 rcases this with rfl|rfl|rfl|rfl <;> rfl
theorem zvK (a:ak) (i:Nat) (hi:i < 4):a.cells[3+i*2+1]? = some (.string (a.arg i).s):=by
 have:i=0\/i=1\/i=2\/i=3:=by omega
 rcases this with rfl|rfl|rfl|rfl <;> rfl
theorem zwR (a:ak) (bv:Bool) (h:Heap) (K:aF) (hk:∀ w l h',Ext h h'->Sl aM.str h' w l->l.length<=4->K w h'):Ok prog aD ov 164 [a.val,.bool bv] h K:=by
 rw [ao h]
 have z:=Ext.refl h
 have Ab:a.cO<=4:=by unfold ak.cO;omega
 refine Ok.aw 50 (bq KO) ?_
 repeat' (simp only [aa,seval,lQ,eE])
 refine na (λh' x hq=>?_)
 have q0:=hq 0 _ rfl
 clear hq
 (replace z:=z.an x;rw [ao h'])
 have rn:=z.size
 obtain ⟨A0,el⟩:∃ A0,A0=h.size+0:=⟨_,rfl⟩
 rw [<- el] at q0
 rw [<- el]
 have q0l:=q0.lt
 obtain ⟨I1,aU⟩:∃ I:Nat->Env->Heap->Prop,I=(λn e h'=>∃ (i:Nat) (wv:ab) (A:Nat) (l:List au) (h1:Heap),h'=h1.lay [] h1.low/\Ext h h1/\(n=a.cO - i/\i<=a.cO/\l.length<=i/\Ow aM.str h h1 9 A wv l/\A≠A0/\Holds h1 A0 (.row a.cells 47 false))/\∃ J:Nat->ab,e=(J 0::.bool bv::.pointer (some ⟨A0,0,none⟩)::jr J 3 2 (wv::.int .i64 i::jr J 7 45 ([])))):=⟨_,rfl⟩
 refine dA I1 _ (by rw [aU];exact ⟨0,.slice none 0 0,A0+1,[],_,rfl,z,⟨rfl,by omega,by simp,Ow.nil (by omega),by omega,q0⟩,bl⟩) ?_
 intro n e h' aO
 rw [aU] at aO
 obtain ⟨i,wv,A,l,bC,rfl,z,hinv,J,rfl⟩:=aO
 clear q0
 obtain ⟨rfl,hi,Dq,ow,hAA,q0⟩:=hinv
 have hw:=ei i (by omega)
 have iZ:∀ (h:Heap) (K:aF),aC (some wv) h K=K wv h:=λ_ _=>rfl
 simp only [aa,seval,lQ,q0.lay,↓eY,eJ,dX]
 refine TK a _ _ (λh' x=>?_)
 (replace z:=z.an x;replace q0:=q0.over x;replace ow:=ow.over x;rw [ao h'])
 simp only [aa,seval,lQ]
 refine bn (λaT=>?_) (λaT=>?_)
 rotate_left
 .repeat' ( simp only [aa,seval,lQ,iZ])
  exact hk _ _ _ z.aA ((ow.sl (by decide)).lay _ _) (by omega)
 repeat' (simp only [aa,seval,lQ])
 obtain ⟨I2,fM⟩:∃ I:Nat->Env->Heap->Prop,I=(λn e h'=>∃ (k:Nat) (b:Bool) (h1:Heap),h'=h1.lay [] h1.low/\Ext h h1/\(n=i - k/\k<=i/\Ow aM.str h h1 9 A wv l/\Holds h1 A0 (.row a.cells 47 false))/\∃ J:Nat->ab,e=(J 0::.bool bv::.pointer (some ⟨A0,0,none⟩)::jr J 3 2 (wv::.int .i64 i::.bool b::.int .i64 k::jr J 9 43 ([])))):=⟨_,rfl⟩
 refine dA I2 _ (by rw [fM];exact ⟨0,false,_,rfl,z,⟨rfl,by omega,ow,q0⟩,bl⟩) ?_
 intro n e h' aO
 rw [fM] at aO
 obtain ⟨k,b,bC,rfl,z,hinv,J,rfl⟩:=aO
 clear q0 ow
 obtain ⟨rfl,yv,ow,q0⟩:=hinv
 have qD:=ei k (by omega)
 have IE:(0:Int)<=(i:Int)/\(i:Int) < 4:=by omega
 have mC:=TG a i (by omega)
 simp only [aa,seval,lQ]
 refine bn (λjx=>?_) (λjx=>?_)
 .have yw:(0:Int)<=(k:Int)/\(k:Int) < 4:=by omega
  have FU:=TG a k (by omega)
  cases b
  .repeat' (first|simp only [aa,seval,lQ,q0.lay,IE,yw,↓mC,↓FU,Tu,Qe,and_self,if_true,zn3]|with_reducible refine dL (by simp only [lQ]) z.aA ?_|((with_reducible  apply bn ) <;> intro _)|((with_reducible refine ⟨z.cn.lay _ _,?_⟩);(intro _ h' zz x _);( simp only [bM,bu] at x );( replace q0:=q0.over x );( replace ow:=ow.over x );(replace z:=zz);(clear zz);rw [ao h']))
   all_goals rw [qD]
   ·(rw [fM];with_reducible refine cy (m:=_) ?_ ⟨k+1,true,_,rfl,z,⟨rfl,by omega,ow,q0⟩,bl⟩;omega)
   ·(rw [fM];with_reducible refine cy (m:=_) ?_ ⟨k+1,false,_,rfl,z,⟨rfl,by omega,ow,q0⟩,bl⟩;omega)
  .repeat' (first|simp only [aa,seval,lQ,q0.lay,IE,yw,↓mC,↓FU,Tu,Qe,and_self,if_true]|with_reducible refine dL (by simp only [lQ]) z.aA ?_|((with_reducible refine ⟨z.cn.lay _ _,?_⟩);(intro _ h' zz x _);( simp only [bM,bu] at x );( replace q0:=q0.over x );( replace ow:=ow.over x );(replace z:=zz);(clear zz);rw [ao h']))
   rw [qD]
   (rw [fM];with_reducible refine cy (m:=_) ?_ ⟨k+1,true,_,rfl,z,⟨rfl,by omega,ow,q0⟩,bl⟩;omega)
 have ID:=zvJ a i (by omega)
 have hcS:=zvK a i (by omega)
 have mY:IntKind.i64.wrap ((i:Int)+1)=((i+1:Nat):Int):=hw
 obtain ⟨vb,r7⟩:∃ vb,(a.arg i).v=vb:=⟨_,rfl⟩
 rw [r7] at ID
 cases vb
 all_goals
  cases bv
  all_goals
   cases b
   all_goals
    repeat' (first|simp only [aa,seval,lQ,q0.lay,IE,and_self,if_true,ID,hcS,iZ,zDh,zDg,zDf,zDe,kW,fQ]|((with_reducible apply bX);(· rfl)))
 all_goals first
  |(rw [hw]
    (rw [aU];with_reducible refine cy (m:=_) ?_ ⟨i+1,wv,A,l,_,rfl,z,⟨rfl,by omega,by omega,ow,hAA,q0⟩,bl⟩;omega))
  |skip
 all_goals
  simp only [aa,seval,lQ,mr,Up]
  have RY:(bC.lay [ba.row [Value.string (a.arg i).s] 9 false] bC.low).size=bC.size+1:=by rw [bc];rfl
  obtain ⟨mE,nI⟩:=Jw (r:=aM.str) (A:=A) (c:=1) (y:=(a.arg i).s) (by decide) (show (bC.lay [ba.row [Value.string (a.arg i).s] 9 false] bC.low).get (bC.size+0)=some (.row [Value.string (a.arg i).s] 9 false) by rw [iB];rfl) rfl
  have hz:=z.size
  obtain ⟨w',h2,A',e1,e2,e3,e4,e5⟩:=AF (t:=22) dr D9 rfl (by decide) (by rw [RY];omega) (ow.mono (bL.lay _ _ _)) mE nI (by omega) (by omega)
  have Bz:=ow.fresh
  have q0l:=q0.lt
  rw [RY] at e4
  replace z:=(z.kN [ba.row [Value.string (a.arg i).s] 9 false] bC.low (by omega)).step e3 Bz
  have q1:=q0.br e3 (by omega)
  rw [e1,ao h2]
  clear q0 ow
 all_goals
  repeat' (simp only [aa,seval,lQ])
  rw [hw]
  (rw [aU];with_reducible refine cy (m:=_) ?_ ⟨i+1,w',A',l++[(a.arg i).s],_,rfl,z,⟨rfl,by omega,by rw [dy,zK];omega,e2,by omega,q1⟩,bl⟩;omega)
theorem zy6 (a:ak) (h:Heap) (K:aF) (hk:∀ w l h',Ext h h'->Sl aM.str h' w l->l.length<=4->K w h'):Ok prog aD ov 130 [a.val] h K:=by
 rw [ao h]
 have z:=Ext.refl h
 refine Ok.aw 4 (bq Kp) ?_
 repeat' (simp only [aa,seval,Lt,eE,↓eY,eJ,dX])
 refine zwR a true _ _ (λw l h' x s hl=>?_)
 (replace z:=z.an x;rw [ao h'])
 have iZ:∀ (h:Heap) (K:aF),aC (some w) h K=K w h:=λ_ _=>rfl
 repeat' (simp only [aa,seval,Lt,iZ])
 exact hk _ _ _ z.aA (s.lay _ _) hl
theorem zyd (s:au):qp aD 44 [(0,.bool true),(1,.string s)]=some (.agg ⟨[.bool true,.string s]⟩):=by kernel_rfl
theorem zvC (a:aZ) (s:au):cz prog aD .eql 44 a.val (.agg ⟨[.bool true,.string s]⟩)=some (.bool (decide (a=⟨true,s⟩))):=zn3 a ⟨true,s⟩
theorem zuk (a:ak) (l:aS) (v:ab) (h:Heap) (hl:Sl aM.atom h v l) (hn:l.length<=6) (qc:∀ x∈l,gO x) (K:aF) (hk:∀ b h',Ext h h'->K (.bool b) h'):Ok prog aD ov 80 [a.val,v] h K:=by
 rw [ao h]
 have z:=Ext.refl h
 have bR:∀ (h:Heap) (K:aF),aC (some v) h K=K v h:=λ_ _=>rfl
 have df:=λ(hh:Heap)=>hl.bo bJ hh
 refine Ok.aw 49 (bq N80) ?_
 repeat' (simp only [aa,seval,sP,eE,↓eY,eJ,dX,bR])
 refine zy6 a _ _ (λw ns h' x sn Gp=>?_)
 (replace z:=z.an x;rw [ao h'])
 have hw:∀ (h:Heap) (K:aF),aC (some w) h K=K w h:=λ_ _=>rfl
 repeat' (simp only [aa,seval,sP,hw])
 have ta:=λ(hh:Heap)=>sn.bo dr hh
 obtain ⟨I1,aU⟩:∃ I:Nat->Env->Heap->Prop,I=(λn e h'=>∃ (i:Nat) (h1:Heap),h'=h1.lay [] h1.low/\Ext h h1/\(n=ns.length - i/\i<=ns.length/\Sl aM.str h1 w ns)/\∃ J:Nat->ab,e=(J 0::v::jr J 2 3 (w::.int .i64 i::jr J 7 44 ([])))):=⟨_,rfl⟩
 refine dA I1 _ (by rw [aU];exact ⟨0,_,rfl,z,⟨rfl,by omega,sn⟩,bl⟩) ?_
 intro n e h' aO
 rw [aU] at aO
 obtain ⟨i,bC,rfl,z,hinv,J,rfl⟩:=aO
 clear sn
 obtain ⟨rfl,hi,sn⟩:=hinv
 have fH:=ei i (by omega)
 simp only [aa,seval,sP,hw,ta]
 refine bn (λaT=>?_) (λaT=>?_)
 rotate_left
 .repeat' ( simp only [aa,seval,sP])
  exact hk _ _ z.aA
 obtain ⟨s,hs,kS⟩:=eW (l:=ns) (i:=i) (by omega)
 repeat' (simp only [aa,seval,sP])
 obtain ⟨I2,fM⟩:∃ I:Nat->Env->Heap->Prop,I=(λn e h'=>∃ (k:Nat) (b:Bool) (h1:Heap),h'=h1.lay [] h1.low/\Ext h h1/\(n=l.length - k/\k<=l.length/\Sl aM.str h1 w ns)/\∃ J:Nat->ab,e=(J 0::v::jr J 2 3 (w::.int .i64 i::.bool b::.int .i64 k::jr J 9 42 ([])))):=⟨_,rfl⟩
 refine dA I2 _ (by rw [fM];exact ⟨0,false,_,rfl,z,⟨rfl,by omega,sn⟩,bl⟩) ?_
 intro n e h' aO
 rw [fM] at aO
 obtain ⟨k,b,bC,rfl,z,hinv,J,rfl⟩:=aO
 clear sn
 obtain ⟨rfl,yv,sn⟩:=hinv
 have qD:=ei k (by omega)
 simp only [aa,seval,sP,bR,df]
 refine bn (λjx=>?_) (λjx=>?_)
 .obtain ⟨r,hr,cw⟩:=eW (l:=l) (i:=k) (by omega)
  have oc:=qc _ (ic cw)
  repeat' (simp only [aa,seval,sP])
  obtain ⟨I3,ny⟩:∃ I:Nat->Env->Heap->Prop,I=(λn e h'=>∃ (m:Nat) (b:Bool) (h1:Heap),h'=h1.lay [] h1.low/\Ext h h1/\(n=4 - m/\m<=4/\Sl aM.str h1 w ns)/\∃ J:Nat->ab,e=(J 0::v::jr J 2 3 (w::.int .i64 i::.bool b::.int .i64 k::.int .i64 m::jr J 10 41 ([])))):=⟨_,rfl⟩
  refine dA I3 _ (by rw [ny];exact ⟨0,b,_,rfl,z,⟨rfl,by omega,sn⟩,bl⟩) ?_
  intro n e h' aO
  rw [ny] at aO
  obtain ⟨m,b,bC,rfl,z,hinv,J,rfl⟩:=aO
  clear sn
  obtain ⟨rfl,hm,sn⟩:=hinv
  have St:=ei m (by omega)
  simp only [aa,seval,sP,bR]
  repeat' ((first|((with_reducible apply bn) <;> intro _)|with_reducible refine qI (hl.mono z.inc) bJ bH (by omega) hr (λp hp=>?_)|with_reducible refine Vi hp En (λq hq=>?_)|with_reducible refine gj hq ES ?_) <;> simp only [aa,seval,sP,bR])
  rotate_left
  .rw [qD]
   (rw [fM];with_reducible refine cy (m:=_) ?_ ⟨k+1,b,_,rfl,z,⟨rfl,by omega,sn⟩,bl⟩;omega)
  have Dt:m < 4:=by have:=oc.hi;omega
  cases b
  rotate_left
  .repeat' ((first|with_reducible refine dL (by simp only [sP]) z.aA ?_|((with_reducible refine ⟨z.cn.lay _ _,?_⟩);(intro _ h' zz x _);( simp only [bM,bu] at x );( replace sn:=sn.over x );(replace z:=zz);(clear zz);rw [ao h'])) <;> simp only [aa,seval,sP,bR,hw])
   rw [St]
   (rw [ny];with_reducible refine cy (m:=_) ?_ ⟨m+1,true,_,rfl,z,⟨rfl,by omega,sn⟩,bl⟩;omega)
  repeat' ((first|with_reducible refine dL (by simp only [sP]) z.aA ?_|((with_reducible apply bn) <;> intro _)|with_reducible refine qI (hl.mono z.inc) bJ bH (by omega) hr (λp hp=>?_)|with_reducible refine Vj hp CA (λp hp=>?_)|with_reducible_and_instances refine ixg hp th (by omega) (by omega) (λp hp=>?_)|with_reducible refine IV hp sJ kL ?_|with_reducible refine rK sn dr px (by omega) hs (λp hp=>?_)|with_reducible refine gj hp j9 ?_|((with_reducible refine ⟨z.cn.lay _ _,?_⟩);(intro _ h' zz x _);(simp only [bM,bu] at x);replace sn:=sn.over x;(replace z:=zz);(clear zz);rw [ao h'])) <;> simp only [aa,seval,sP,bR,hw,zyd,zvC])
  all_goals rw [St]
  ·(rw [ny];with_reducible refine cy (m:=_) ?_ ⟨m+1,true,_,rfl,z,⟨rfl,by omega,sn⟩,bl⟩;omega)
  ·(rw [ny];with_reducible refine cy (m:=_) ?_ ⟨m+1,false,_,rfl,z,⟨rfl,by omega,sn⟩,bl⟩;omega)
 cases b
 .repeat' (first|simp only [aa,seval,sP,kW]|((with_reducible apply bX);(· rfl)))
  exact hk _ _ z.aA
 .repeat' (first|simp only [aa,seval,sP,fQ]|((with_reducible apply bX);(· rfl)))
  rw [fH]
  (rw [aU];with_reducible refine cy (m:=_) ?_ ⟨i+1,_,rfl,z,⟨rfl,by omega,sn⟩,bl⟩;omega)
theorem zEX (h:Heap) (l:List ba) (w i o:Nat) (v:ab) (hi:i < l.length):iH aD 70 (.pointer (some ⟨h.size+i,o,none⟩)) v (h.lay l w)=if v.cells.size=13 then tI l[i]? i o v.cells.toList h l w else none:=xk qk h l w i o v hi
theorem zwD (d:aq) (p0 p1 p2 p5 p6:ab) (q b:Int) (h:Heap) (bf:(du p0 p1 p2 p5 p6 q b).all Am.one=true) (hd:dR h p0 p1 p2 p5 p6 d) (hn:d.aR.length<=70) (K:aF) (hk:∀ c h',Ext h h'->K (.int .i64 c) h'):Ok prog aD ov 46 [fI p0 p1 p2 p5 p6 q b] h K:=by
 rw [ao h]
 have z:=Ext.refl h
 have kU:∀ (h:Heap) (K:aF),aC (some p5) h K=K p5 h:=λ_ _=>rfl
 have lY:∀ (h:Heap) (K:aF),aC (some p6) h K=K p6 h:=λ_ _=>rfl
 have nY:=λ(hh:Heap)=>hd.s5.bo my hh
 have mW:=λ(hh:Heap)=>hd.s6.bo nu hh
 have amR:=hd.s5.le
 have amS:=hd.s6.le
 refine Ok.aw 133 (bq N46) ?_
 repeat' (simp only [aa,seval,mx,gZ,↓fA,eV,eI])
 refine zwX d.ah _ _ _ _ _ _ _ _ (hd.s0.lay _ _) _ (λc h' x=>?_)
 have q0:=Holds.top (i:=0) x rfl
 (replace z:=z.an x;rw [ao h'])
 obtain ⟨A0,el⟩:∃ A0,A0=h.size+0:=⟨_,rfl⟩
 rw [<- el] at q0
 rw [<- el]
 by_cases hc:c=0
 rotate_left
 .repeat' (first|simp only [aa,seval,mx]|((with_reducible first|apply lK|apply gg ) <;> intro _))
  all_goals first
   |exact hk _ _ z.aA
   |(exfalso;omega)
 subst hc
 repeat' (simp only [aa,seval,mx,q0.lay,↓fA,eV,eI])
 refine zwW d.bZ _ _ _ _ _ _ _ _ ((hd.s1.mono z.inc).lay _ _) _ (λc h' x=>?_)
 (replace z:=z.an x;replace q0:=q0.over x;rw [ao h'])
 by_cases hc:c=0
 rotate_left
 .repeat' (first|simp only [aa,seval,mx]|((with_reducible first|apply lK|apply gg ) <;> intro _))
  all_goals first
   |exact hk _ _ z.aA
   |(exfalso;omega)
 subst hc
 repeat' (simp only [aa,seval,mx,q0.lay,↓fA,eV,eI])
 refine zt7 d _ _ _ _ _ _ _ _ bf ((hd.mono z.inc).lay _ _) hn _ (λc h' x=>?_)
 (replace z:=z.an x;replace q0:=q0.over x;rw [ao h'])
 by_cases hc:c=0
 rotate_left
 .repeat' (first|simp only [aa,seval,mx]|((with_reducible  apply gg ) <;> intro _))
  all_goals first
   |exact hk _ _ z.aA
   |(exfalso;omega)
 subst hc
 repeat' (first|simp only [aa,seval,mx,q0.lay,G4,N4,gY,iw,kU,lY,nY,mW]|((with_reducible apply bn) <;> intro _))
 iterate 7 (· exact hk _ _ z.aA)
 have e5:d.rules.length<=64:=by omega
 have e6:d.bK.length<=64:=by omega
 obtain ⟨I1,aU⟩:∃ I:Nat->Env->Heap->Prop,I=(λn e h'=>∃ (i:Nat) (h1:Heap),h'=h1.lay [] h1.low/\Ext h h1/\(n=d.rules.length - i/\i<=d.rules.length/\Holds h1 A0 (.row (du p0 p1 p2 p5 p6 q b) 28 false))/\∃ J:Nat->ab,e=(J 0::.pointer (some ⟨A0,0,none⟩)::jr J 2 2 (.int .i64 i::jr J 5 129 ([])))):=⟨_,rfl⟩
 refine dA I1 _ (by rw [aU];exact ⟨0,_,rfl,z,⟨rfl,by omega,q0⟩,bl⟩) ?_
 intro n e h' aO
 rw [aU] at aO
 obtain ⟨i,bC,rfl,z,hinv,J,rfl⟩:=aO
 clear q0
 obtain ⟨rfl,hi,q0⟩:=hinv
 have hw:=ei i (by omega)
 simp only [aa,seval,mx,q0.lay,gY,kU,nY]
 refine bn (λaT=>?_) (λaT=>?_)
 .obtain ⟨r,hr,cw⟩:=eW (l:=d.rules) (i:=i) (by omega)
  repeat' (first|simp only [aa,seval,mx,q0.lay,↓fA,eV,eI,gY,kU]|with_reducible refine dL (by simp only [mx]) z.aA ?_|with_reducible refine Q5 (hd.s5.mono z.inc) my rz (by omega) hr (λp bv hb hp=>?_)|with_reducible refine Fs hp HN (λqq hq=>?_)|with_reducible refine ma hq eP bH ?_|with_reducible refine Ft hp HO (λqq hq=>?_)|with_reducible refine gj hq sH ?_)
  refine zlA d r.head r.body bv _ _ _ _ _ _ _ _ bf ((hd.mono z.inc).lay _ _) (hb.lay _ _) _ (λhvh r7 Sh h' x=>?_) (λc h' hc x=>?_)
  rotate_left
  ·(( ((with_reducible refine cU ?_ ?_ ?_);(· exact (by ( simp only [ck] );have:=z.size;omega));(·  exact x )) );replace z:=z.an x;( replace q0:=q0.over x );rw [ao h'])
   repeat' (first|simp only [aa,seval,mx]|with_reducible refine dL (by simp only [mx]) z.aA ?_|((with_reducible first|apply lK|apply gg) <;> intro _)|((with_reducible refine ⟨z.cn.lay _ _,?_⟩);(intro _ h' zz x _);(simp only [bM,bu] at x);replace q0:=q0.over x;(replace z:=zz);(clear zz);rw [ao h']))
   all_goals first
    |exact hk _ _ z.aA
    |(exfalso;omega)
  (((with_reducible refine cU ?_ ?_ ?_);(· exact (by (simp only [ck]);have:=z.size;omega));(· exact x));replace z:=z.an x;replace q0:=q0.over x;rw [ao h'])
  clear hb
  repeat' (first|simp only [aa,seval,mx,q0.lay,gY,kU]|with_reducible refine dL (by simp only [mx]) z.aA ?_|with_reducible refine Q5 (hd.s5.mono z.inc) my rz (by omega) hr (λp bv hb hp=>?_)|with_reducible refine Fs hp HN (λqq hq=>?_)|with_reducible refine ma hq eP bH ?_|with_reducible refine Ft hp HO (λqq hq=>?_)|with_reducible refine gj hq sH ?_|((with_reducible refine ⟨z.cn.lay _ _,?_⟩);(intro _ h' zz x _);(simp only [bM,bu] at x);replace q0:=q0.over x;(replace z:=zz);(clear zz);rw [ao h']))
  refine zuk r.head r.body bv _ (hb.lay _ _) Sh r7 _ (λbb h' x=>?_)
  (((with_reducible refine cU ?_ ?_ ?_);(· exact (by (simp only [ck]);have:=z.size;omega));(· exact x));replace z:=z.an x;replace q0:=q0.over x;rw [ao h'])
  cases bb
  .repeat' (first|simp only [aa,seval,mx,kW]|((with_reducible apply bX);(· rfl))|((with_reducible refine ⟨z.cn.lay _ _,?_⟩);(intro _ h' zz x _);( simp only [bM,bu] at x );( replace q0:=q0.over x );(replace z:=zz);(clear zz);rw [ao h']))
   exact hk _ _ z.aA
  .repeat' (first|simp only [aa,seval,mx,fQ]|((with_reducible apply bX);(· rfl))|((with_reducible refine ⟨z.cn.lay _ _,?_⟩);(intro _ h' zz x _);( simp only [bM,bu] at x );( replace q0:=q0.over x );(replace z:=zz);(clear zz);rw [ao h']))
   rw [hw]
   (rw [aU];with_reducible refine cy (m:=_) ?_ ⟨i+1,_,rfl,z,⟨rfl,by omega,q0⟩,bl⟩;omega)
 clear hi aT hw
 simp only [aa,seval,mx]
 obtain ⟨I2,fM⟩:∃ I:Nat->Env->Heap->Prop,I=(λn e h'=>∃ (i:Nat) (h1:Heap),h'=h1.lay [] h1.low/\Ext h h1/\(n=d.bK.length - i/\i<=d.bK.length/\Holds h1 A0 (.row (du p0 p1 p2 p5 p6 q b) 28 false))/\∃ J:Nat->ab,e=(J 0::.pointer (some ⟨A0,0,none⟩)::jr J 2 3 (.int .i64 i::jr J 6 128 ([])))):=⟨_,rfl⟩
 refine dA I2 _ (by rw [fM];exact ⟨0,_,rfl,z,⟨rfl,by omega,q0⟩,bl⟩) ?_
 intro n e h' aO
 rw [fM] at aO
 obtain ⟨i,bC,rfl,z,hinv,J,rfl⟩:=aO
 clear q0
 obtain ⟨rfl,hi,q0⟩:=hinv
 have hw:=ei i (by omega)
 simp only [aa,seval,mx,q0.lay,iw,lY,mW]
 refine bn (λaT=>?_) (λaT=>?_)
 rotate_left
 .repeat' ( simp only [aa,seval,mx])
  exact hk _ _ z.aA
 obtain ⟨r,hr,cw⟩:=eW (l:=d.bK) (i:=i) (by omega)
 repeat' (first|simp only [aa,seval,mx,q0.lay,↓fA,eV,eI,iw,lY,QL,sg,nU,oX,Am.one,Bool.and_true,Bool.true_and,sC,oV,JT,DO,kK,st9,vO,Cf,zEX]|with_reducible refine Ud (hd.s6.mono z.inc) nu qk (by omega) hr (λp bv hb hp=>?_)|with_reducible refine ldG hp EU qk ?_)
 have hob:(r.head.cells++[bv]).all Am.one=true:=by have:=hb.one;simp only [ak.cells,List.all_append,nU,oX,this];rfl
 have Gi:(r.head.cells++[bv]).length=12:=rfl
 have hbv:∀ (h:Heap) (K:aF),aC (some bv) h K=K bv h:=λ_ _=>rfl
 have XJ:(Value.string r.to::(r.head.cells++[bv]))[0]? = some (.string r.to):=rfl
 have Dl:(Value.string r.to::(r.head.cells++[bv]))[1]? = some (.string r.head.says):=rfl
 have XK:(Value.string r.to::(r.head.cells++[bv]))[12]? = some bv:=rfl
 have hgc:cut (Value.string r.to::(r.head.cells++[bv])) 1 11=some r.head.cells:=rfl
 rw [aE Gi,aE (by rw [Gi,hob];rfl),show (Value.string r.to::(r.head.cells++bv::List.drop (r.head.cells++[bv]).length [Value.string ⟨#[]⟩,Value.string ⟨#[]⟩,Value.int IntKind.i64 0,Value.bool false,Value.string ⟨#[]⟩,Value.bool false,Value.string ⟨#[]⟩,Value.bool false,Value.string ⟨#[]⟩,Value.bool false,Value.string ⟨#[]⟩,Value.slice none 0 0]))=Value.string r.to::(r.head.cells++[bv]) from rfl]
 repeat' (simp only [aa,seval,mx,q0.lay,↓fA,eV,eI])
 refine HF d.ah r.to _ _ _ _ _ _ _ _ ((hd.s0.mono z.inc).lay _ _) _ (λh' x=>?_)
 have g0:=Holds.top (i:=0) x rfl
 (replace z:=z.an x;replace q0:=q0.over x;replace hb:=hb.over x;rw [ao h'])
 obtain ⟨A1,oC⟩:∃ A1,A1=bC.size+0:=⟨_,rfl⟩
 rw [<- oC] at g0
 rw [<- oC]
 cases hh:iM d.ah r.to
 .repeat' (first|simp only [aa,seval,mx,kW]|((with_reducible apply bX);(· rfl)))
  exact hk _ _ z.aA
 repeat' (first|simp only [aa,seval,mx,fQ,g0.lay,XJ,Dl,q0.lay,↓fA,eV,eI,↓hgc,eJ,dX,XK,hbv]|((with_reducible apply bn) <;> intro _)|((with_reducible apply bX);(· rfl)))
 .exact hk _ _ z.aA
 refine zlA d r.head r.body bv _ _ _ _ _ _ _ _ bf ((hd.mono z.inc).lay _ _) (hb.lay _ _) _ (λhvh r7 Sh h' x=>?_) (λc h' hc x=>?_)
 rotate_left
 ·(replace z:=z.an x;( replace q0:=q0.over x );( replace g0:=g0.over x );( replace hb:=hb.over x );rw [ao h'])
  repeat' (first|simp only [aa,seval,mx]|((with_reducible apply gg) <;> intro _))
  all_goals first
   |exact hk _ _ z.aA
   |(exfalso;omega)
 (replace z:=z.an x;replace q0:=q0.over x;replace g0:=g0.over x;replace hb:=hb.over x;rw [ao h'])
 repeat' (simp only [aa,seval,mx])
 rw [hw]
 (rw [fM];with_reducible refine cy (m:=_) ?_ ⟨i+1,_,rfl,z,⟨rfl,by omega,q0⟩,bl⟩;omega)
end Go.Proofs.YtiapegieocgmfaaGreatDoor
