/- The code of some functions, node by node, for simp. Written by a program (mkcode.py). No condition. -/
import Derived.Test.YtnkmeidmdaidhaaGreatDoorG42
import Derived.Test.YtnkmeidmdaidhaaGreatDoorG32
set_option linter.unusedSimpArgs false
set_option linter.unusedVariables false
set_option maxRecDepth 100000
set_option maxHeartbeats 0
noncomputable section
namespace Go.Proofs.YtnkmeidmdaidhaaGreatDoor
open Go.Am Tryz
def N8:=bI f8
def x8:=PLift.up (by have c:=bM N8 f8;simp only [aO,f8,seval] at c;exact nd c <| nd @ta <| nd @Ie <| nd @Bu <| nd @uE <| nd @mJ <| nd @kp <| nd @Lj <| @fi8)
theorem c8:type_of% x8.down:=x8.down
def ZC:=bI f21
def Mu:=PLift.up (by have c:=bM ZC f21;simp only [aO,f21,seval] at c;exact nd c <| nd @ig <| nd @cq <| nd @ij <| @Sb)
theorem Om:type_of% Mu.down:=Mu.down
def N7:=bI f7
def x7:=PLift.up (by have c:=bM N7 f7;simp only [aO,f7,seval] at c;exact nd c <| nd @vd <| nd @ve <| nd @pj <| nd @iX <| nd @cq <| nd @rR <| @fi7)
theorem c7:type_of% x7.down:=x7.down
def N17:=bI f17
def WT:=PLift.up (by have c:=bM N17 f17;simp only [aO,f17,seval] at c;exact nd c <| @R5)
def N9:=bI f9
def x9:=PLift.up (by have c:=bM N9 f9;simp only [aO,f9,seval] at c;exact nd c <| nd @rB <| @fi9)
theorem c9:type_of% x9.down:=x9.down
def Zz:=bI f12
def Ft:=PLift.up (by have c:=bM Zz f12;simp only [aO,f12,seval] at c;exact nd c <| nd @Dx <| nd @vd <| nd @ve <| nd @pj <| nd @iX <| nd @cq <| nd @rR <| @RY)
theorem tA:type_of% Ft.down:=Ft.down
theorem Yv (a:ae) (h:Heap) (K:aJ) (h1:a.bW=true->∀ h',Ext h h'->K (.bool true) h') (h2:a.bW=false->∀ h',Ext h h'->K (.bool false) h'):Ok prog aH ov 8 [a.val] h K:=by
 rw [aw h]
 have z:=Ext.refl h
 unfold ae.val ae.cells
 refine Ok.aA 29 (bH N8) ?_
 simp only [aa,seval,c8]
 repeat' ((first|((with_reducible apply bS) <;> intro _)|with_reducible refine Nd ?_) <;> simp only [aa,seval,c8])
 all_goals first
  |with_reducible exact h2 (by simp [ae.bW];omega) _ z.av
  |with_reducible exact h1 (by simp [ae.bW];omega) _ z.av
theorem zpb (l:aN) (v:ai) (m:Int) (h:Heap) (hl:Sl aC.atom h v l) (K:aJ) (h1:(l.length:Int)<=m->(∀ a∈l,a.bW=true)->∀ h',Ext h h'->K (.bool true) h') (h2:∀ h',Ext h h'->K (.bool false) h'):Ok prog aH ov 21 [v,.int .i64 m] h K:=by
 rw [aw h]
 have z:=Ext.refl h
 have hle:=hl.le
 refine Ok.aA 20 (bH ZC) ?_
 simp only [aa,seval,Om]
 repeat' ((first|((with_reducible apply bS) <;> intro _)|with_reducible refine q9 hl bZ ?_) <;> simp only [aa,seval,Om])
 .exact h2 _ z.av
 refine zCo (λe h'=>∃ (i:Nat) (h1:Heap) (x1 x2 x3 x4 x6 x7 x8 x9 LH LS Ft Me Mo Mr WQ WT WU WV x20 Mu:ai),h'=h1.lay [] h1.low/\Ext h h1/\i<=l.length/\(∀ a∈l.take i,a.bW=true)/\e=[v,x1,x2,x3,x4,.int .i64 i,x6,x7,x8,x9,LH,LS,Ft,Me,Mo,Mr,WQ,WT,WU,WV,x20,Mu]) (λe _=>match e.get 5 with | .int _ i=>l.length - i.toNat|_=>0) ?_ ?_
 .exact ⟨0,h,_,_,_,_,_,_,_,_,_,_,_,_,_,_,_,_,_,_,_,_,rfl,z,by omega,by simp,rfl⟩
 rintro e h' ⟨i,bU,x1,x2,x3,x4,x6,x7,x8,x9,LH,LS,Ft,Me,Mo,Mr,WQ,WT,WU,WV,x20,Mu,rfl,z,hi,aB,rfl⟩
 have hw:i < l.length->IntKind.i64.wrap ((i:Int)+1)=((i+1:Nat):Int):=λhh=>by unfold maxLen at hle;rw [fZ (by omega) (by omega)];omega
 simp only [aa,seval,Om]
 repeat' ((first|((with_reducible apply bS) <;> intro _)|with_reducible refine q9 hl bZ ?_|with_reducible refine ixa (hl.mono z.inc) bZ ck (by omega) (by omega) (λa p ha hp=>?_)|with_reducible refine qV hp iQ ck ?_|((with_reducible refine Yv _ _ _ (λhlx h' x=>?_) (λhlx h' x=>?_)) <;> (replace z:=z.ao x;rw [aw h']))|((with_reducible apply cf);(· rfl))) <;> simp only [aa,seval,Om])
 all_goals first
  |with_reducible exact h2 _ z.av
  |with_reducible exact h1 (by omega) (by rw [gb (by omega)] at aB;exact aB) _ z.av
  |(rw [hw (by omega)]
    with_reducible refine zoW ?_ ?_
    .exact ⟨i+1,h',_,_,_,_,_,_,_,_,_,_,_,_,_,_,_,_,_,_,_,_,rfl,z,by omega,rY ha aB hlx,rfl⟩
    .show l.length - ((i+1:Nat):Int).toNat < l.length - (i:Int).toNat
     omega)
theorem Zt (l:aN) (v:ai) (h:Heap) (hl:Sl aC.atom h v l) (hn:l.length<=1000000) (K:aJ) (hk:∀ w A h',Ext h h'->Ow aC.atom h h' 28 A w l->(A < h.size->False)->K w h'):Ok prog aH ov 9 [v] h K:=by
 rw [aw h]
 refine Ok.aA 5 (bH N9) ?_
 simp only [aa,seval,c9,jF,Gt]
 obtain ⟨news,hs,j3⟩:=xR (A:=h.size+1) (r:=aC.atom) (by decide) (hl.lay [.row [] 28 false] h.low) (λcs y hr=>hr)
 have f:Ow aC.atom h (h.lay [.row [] 28 false] h.low) 28 (h.size+1) (.slice (some ⟨h.size+0,0,none⟩) 0 0) [] :=
  .inl ⟨by omega,rfl,.inr ⟨h.size+0,0,rfl,by omega,by rw [bh];simp,[],28,false,by rw [jG];rfl⟩⟩
 obtain ⟨w,h',A',e1,e2,e3,e4,e5⟩:=sb (t:=23) bZ sV rfl (by decide) (by rw [bh];omega) f hs j3 (by simp only [db];omega) (by simp only [db];omega)
 rw [e1]
 simp only [aa,seval,c9]
 exact hk _ _ _ ((Ext.refl h).bV e3 (by omega) (by omega)) e2 (by omega)
theorem zjR (l:List ak) (facts:aN) (v w:ai) (h:Heap) (hl:Sl aC.clause h v l) (hf:Sl aC.atom h w facts) (K:aJ)
 (h1:l.length<=6->facts.length<=12->(∀ r∈l,r.body.length<=3)->∀ h',Ext h h'->K (.bool true) h') (h2:∀ h',Ext h h'->K (.bool false) h'):Ok prog aH ov 7 [v,w] h K:=by
 rw [aw h]
 have z:=Ext.refl h
 refine Ok.aA 34 (bH N7) ?_
 simp only [aa,seval,c7]
 repeat' ((first|((with_reducible apply bS) <;> intro _)|with_reducible refine q9 hl fB ?_|((with_reducible refine zpb _ _ _ _ ((hf.mono z.inc).lay _ _) _ (λhlf Kk h' x=>?_) (λh' x=>?_)) <;> (replace z:=z.ao x;rw [aw h']))|((with_reducible apply cf);(· rfl))) <;> simp only [aa,seval,c7])
 all_goals try exact h2 _ z.av
 obtain ⟨I1,aX⟩:∃ I:Nat->Env->Heap->Prop,I=(λn e h'=>∃ (i:Nat) (h1:Heap),h'=h1.lay [] h1.low/\Ext h h1/\(n=l.length - i/\i<=l.length/\∀ r∈l.take i,r.body.length<=3)/\∃ J:Nat->ai,e=(v::jr J 1 4 (.int .i64 i::jr J 6 30 ([])))):=⟨_,rfl⟩
 refine dN I1 _ (by rw [aX];exact ⟨0,_,rfl,z,⟨rfl,by omega,by simp⟩,bo⟩) ?_
 intro n e h' aP
 rw [aX] at aP
 obtain ⟨i,bU,rfl,z,hinv,J,rfl⟩:=aP
 obtain ⟨rfl,hi,aB⟩:=hinv
 have hw:=eE i (by omega)
 repeat' (first|simp only [aa,seval,c7]|((with_reducible apply bS) <;> intro _)|with_reducible refine q9 hl fB ?_)
 rotate_left
 .exact h1 (by omega) (by omega) (by rw [gb (by omega)] at aB;exact aB) _ z.av
 obtain ⟨r,hr,cw⟩:=gC (l:=l) (i:=i) (by assumption)
 repeat' ((first|with_reducible refine Db (hl.mono z.inc) fB iE (by omega) hr (λp bd gz hp=>?_)|with_reducible refine JF hp vd (λp hp=>?_)|with_reducible refine JG hp ve (λq hq=>?_)|with_reducible refine qV hp iQ ck ?_|with_reducible refine qJ hq Du ?_|((with_reducible refine Yv _ _ _ (λO4 h' x=>?_) (λO4 h' x=>?_)) <;> (replace z:=z.ao x;rw [aw h']))|((with_reducible refine zpb _ _ _ _ (gz.mono (bN.lay _ _ _)) _ (λhlen Ae h' x=>?_) (λh' x=>?_)) <;> (replace z:=z.ao x;rw [aw h']))|((with_reducible apply cf);(· rfl))) <;> simp only [aa,seval,c7])
 all_goals first
  |with_reducible exact h2 _ z.av
  |(rw [hw];(rw [aX];with_reducible refine cF (m:=_) ?_ ⟨i+1,_,rfl,z,⟨rfl,by omega,rY (i:=i) (P:=λr:ak=>r.body.length<=3) cw aB (by show r.body.length<=3;omega)⟩,bo⟩;omega))
theorem zlj (a:ae) (b:Option Addr) (n c:Nat):lL aH 35 [(0,a.val),(1,.slice b n c)]=some (.agg ⟨a.cells++[.slice b n c]⟩):=by kernel_rfl
theorem zm0 (l:List ak) (v:ai) (h:Heap) (hl:Sl aC.clause h v l) (hn:l.length<=1000) (nT:∀ c∈l,c.body.length<=1000) (K:aJ) (hk:∀ w A h',Ext h h'->Ow aC.clause h h' 35 A w l->K w h'):Ok prog aH ov 12 [v] h K:=by
 rw [aw h]
 have z:=Ext.refl h
 refine Ok.aA 26 (bH Zz) ?_
 simp only [aa,seval,tA]
 obtain ⟨I1,aX⟩:∃ I:Nat->Env->Heap->Prop,I=(λn e h'=>∃ (i:Nat) (w:ai) (A:Nat) (h1:Heap),h'=h1.lay [] h1.low/\Ext h h1/\(n=l.length - i/\i<=l.length/\Ow aC.clause h h1 35 A w (l.take i))/\∃ J:Nat->ai,e=(v::jr J 1 2 (w::.int .i64 i::jr J 5 22 ([])))):=⟨_,rfl⟩
 refine dN I1 _ (by rw [aX];exact ⟨0,.slice none 0 0,h.size,_,rfl,z,⟨rfl,by omega,Ow.nil (aR _)⟩,bo⟩) ?_
 intro n e h' aP
 rw [aX] at aP
 obtain ⟨i,w,A,bU,rfl,z,hinv,J,rfl⟩:=aP
 obtain ⟨rfl,hi,ho⟩:=hinv
 have hw:=eE i (by omega)
 have hz:=z.size
 simp only [aa,seval,tA]
 repeat' ((first|((with_reducible apply bS) <;> intro _)|with_reducible refine q9 hl fB ?_) <;> simp only [aa,seval,tA])
 rotate_left
 .rw [gb (by omega)] at ho
  exact hk _ _ _ z.av (ho.mono (bN.lay _ _ _))
 obtain ⟨r,hr,cw⟩:=gC (l:=l) (i:=i) (by assumption)
 have hrb:=nT r (en cw)
 have aT:=ho.lt
 repeat' ((first|with_reducible refine Db (hl.mono z.inc) fB iE (by omega) hr (λp bd gz hp=>?_)|with_reducible refine JF hp vd (λp hp=>?_)|with_reducible refine JG hp ve (λq hq=>?_)|with_reducible refine qV hp iQ ck ?_|with_reducible refine qJ hq Du ?_|with_reducible refine ez (by simp only [tA]) z.av ?_) <;> simp only [aa,seval,tA])
 refine Zt _ _ _ (gz.lay _ _) (by omega) _ (λw2 A2 h' x o2 TE=>?_)
 (((with_reducible refine ix ?_ ?_ ?_);(· exact (by (simp only [iY]);have:=z.size;omega));(· exact x));replace z:=z.ao x;replace ho:=ho.over x;rw [aw h'])
 obtain ⟨wa,wn,wc,rfl⟩:=o2.slice
 simp only [aa,seval,tA,zlj,zju]
 refine ni (by have:=z.size;omega) (by omega) ?_
 simp only [cm,seval,tA,jF,zDc]
 have hlen:(l.take i).length<=1000:=by rw [gR];omega
 have sH:(h'.lay [aZ.row (r.head.cells++[Value.slice wa wn wc]) 35 false] (h'.size+1)).size=h'.size+1:=by rw [bh];rfl
 have xj:=z.size
 have V4:bU.size<=h'.size:=by have:=x.size;rw [bh] at this;simpa using this
 obtain ⟨A',yx,fk⟩:∃ A',Ow aC.clause h (h'.lay [aZ.row (r.head.cells++[Value.slice wa wn wc]) 35 false] (h'.size+1)) 35 A' w (l.take i)/\(A' < bU.size\/h'.size+1<=A'):=by
  rcases aT with aT|aT
  .exact ⟨A,ho.mono (bN.lay _ _ _),.inl aT⟩
  .rw [aT] at ho
   refine ⟨h'.size+1,?_,.inr (aR _)⟩
   rw [aT]
   exact (ho.mono (bN.lay _ _ _)).any _ (by omega)
 have hR:aC.clause.R (kill A' (h'.lay [aZ.row (r.head.cells++[Value.slice wa wn wc]) 35 false] (h'.size+1))) (r.head.cells++[Value.slice wa wn wc]) r :=
  ⟨_,rfl,(o2.mono (bN.lay _ _ _)).under (by decide) (λ_ _ _ _ h=>h) (by rw [bh,sH];simpa using fk)⟩
 obtain ⟨hs,j3⟩:=Bo (r:=aC.clause) (c:=1) (by decide) (show (h'.lay [aZ.row (r.head.cells++[Value.slice wa wn wc]) 35 false] (h'.size+1)).get (h'.size+0)=some (.row (r.head.cells++[Value.slice wa wn wc]) 35 false) by rw [jG];rfl) hR
 obtain ⟨w',B0,Zu,e1,e2,e3,e4,e5⟩:=sb (t:=22) fB MQ rfl (by decide) (by rw [sH];omega) yx hs j3 (by omega) (by omega)
 have wz:=yx.fresh
 rw [e1]
 simp only [syms,seval]
 refine iL (A:=A') (by kernel_rfl) (by rw [bh];omega) (by omega) (by simpa only [bY,bh,bC,ek,db,iA] using e3) ?_
 replace z:=(z.jC [aZ.row (r.head.cells++[Value.slice wa wn wc]) 35 false] (h'.size+1) (by omega)).step e3 wz
 have ic:l.take (i+1)=l.take i++[r]:=by rw [lr,cw];rfl
 rw [<- ic] at e2
 clear ho o2 yx
 rw [aw B0]
 repeat' (first|simp only [aa,seval,tA]|((with_reducible refine ⟨z.cU.lay _ _,?_⟩);(intro _ h' zz x _);(simp only [bY,bC] at x);replace e2:=e2.over x;(replace z:=zz);(clear zz);rw [aw h']))
 rw [hw]
 (rw [aX];with_reducible refine cF (m:=_) ?_ ⟨i+1,_,_,_,rfl,z,⟨rfl,by omega,e2⟩,bo⟩;omega)
theorem zpe (l m:aN) (v u:ai) (h:Heap) (hl:Sl aC.atom h v l) (hm:Sl aC.atom h u m) (hs:l.length<=1000) (eQ:m.length<=1000) (K:aJ)
 (hk:∀ h',Ext h h'->K (.bool (decide (l=m))) h'):Ok prog aH ov 15 [v,u] h K:=by
 rw [aw h]
 have z:=Ext.refl h
 have yr:=λ(hh:Heap)=>hl.bQ bZ hh
 have G0:=λ(hh:Heap)=>hm.bQ bZ hh
 refine Ok.aA 24 (bH ZB) ?_
 simp only [aa,seval,BO,yr,G0]
 refine qM (λaM=>?_) (λheq=>?_)
 .rw [tn (show ¬ l=m from λe=>by subst e;exact aM rfl)] at hk
  repeat' (simp only [aa,seval,BO])
  exact hk _ z.av
 have hlen:l.length=m.length:=by omega
 repeat' (simp only [aa,seval,BO])
 obtain ⟨I1,aX⟩:∃ I:Nat->Env->Heap->Prop,I=(λn e h'=>∃ (i:Nat) (h1:Heap),h'=h1.lay [] h1.low/\Ext h h1/\(n=l.length - i/\i<=l.length/\l.take i=m.take i)/\∃ J:Nat->ai,e=(v::u::jr J 2 3 (.int .i64 i::jr J 6 20 ([])))):=⟨_,rfl⟩
 refine dN I1 _ (by rw [aX];exact ⟨0,_,rfl,z,⟨rfl,by omega,rfl⟩,bo⟩) ?_
 intro n e h' aP
 rw [aX] at aP
 obtain ⟨i,bU,rfl,z,hinv,J,rfl⟩:=aP
 obtain ⟨rfl,hi,ic⟩:=hinv
 have hw:=eE i (by omega)
 simp only [aa,seval,BO,yr]
 refine bS (λaT=>?_) (λaT=>?_)
 rotate_left
 .rw [gb (by omega),gb (by omega)] at ic
  rw [sk ic] at hk
  repeat' (simp only [aa,seval,BO])
  exact hk _ z.av
 obtain ⟨r,hr,cw⟩:=gC (l:=l) (i:=i) (by omega)
 obtain ⟨s,hs,fD⟩:=gC (l:=m) (i:=i) (by omega)
 simp only [aa,seval,BO]
 repeat' ((first|((with_reducible apply Bv) <;> intro _)|with_reducible refine r9 (hl.mono z.inc) bZ ck (by omega) hr (λp hp=>?_)|with_reducible refine r9 (hm.mono z.inc) bZ ck (by omega) hs (λp hp=>?_)|with_reducible refine qV hp iQ ck ?_|with_reducible refine ez (by simp only [BO]) z.av ?_|((with_reducible refine ⟨z.cU.lay _ _,?_⟩);(intro _ h' zz x _);(simp only [bY,bC] at x);(replace z:=zz);(clear zz);rw [aw h'])) <;> simp only [aa,seval,BO,zvS])
 .have aM:¬ r=s:=by assumption
  rw [tn (show ¬ l=m from λe=>by
   subst e
   rw [cw] at fD
   exact aM (Option.some.inj fD))] at hk
  exact hk _ z.av
 .have he:r=s:=by assumption
  rw [hw]
  (rw [aX];with_reducible refine cF (m:=_) ?_ ⟨i+1,_,rfl,z,⟨rfl,by omega,by rw [lr,lr,cw,fD,ic,he]⟩,bo⟩;omega)
end Go.Proofs.YtnkmeidmdaidhaaGreatDoor
