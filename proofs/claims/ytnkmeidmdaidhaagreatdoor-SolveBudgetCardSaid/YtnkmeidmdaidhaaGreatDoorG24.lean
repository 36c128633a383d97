/- Walks: bindings: may they be Written out by fill2.py. No condition. -/
import Derived.Test.YtnkmeidmdaidhaaGreatDoorG23
set_option linter.unusedSimpArgs false
set_option linter.unusedVariables false
set_option maxRecDepth 100000
set_option maxHeartbeats 0
namespace Go.Proofs.YtnkmeidmdaidhaaGreatDoor
open Go.Am Tryz
variable {m w:Nat} {e:Env} {h:Heap} {l:List av}
theorem zu6 {I:Nat->Env->Heap->Prop} {Q:Ex->Env->Heap->Prop} {x:Ex} {h0 h1:Heap} {bs:List bc} (z:Ext h0 (h1.lay bs w)) (hk:∀ H,Ext h0 H->zZ I m Q x e (H.lay [] H.low)):zZ I m Q x e (h1.lay bs w):=by
 have:=hk _ z
 rwa [<- aq] at this
theorem Ey (l:List av) (v:ai) (h:Heap) (hl:Sl aF.bind h v l) (hs:l.length<=1000) (K:aL)
 (hk:∀ h' e,Ext h h'->(e=0↔kb l)->K (.int .i64 e) h'):Ok prog aH ov 98 [v] h K:=by
 rw [aq h]
 have z:=Ext.refl h
 refine Ok.aC 36 (bH Wj) ?_
 repeat' (simp only [aa,seval,vh])
 refine zrf l _ _ (hl.lay _ _) hs _ (λh' b x hb=>?_)
 (replace z:=z.ao x;rw [aq h'])
 cases b
 .repeat' (first|simp only [aa,seval,vh]|((with_reducible apply cn);(· rfl)))
  refine hk _ _ ?_ ?_
  .exact z.aw
  .exact ⟨λhh=>absurd hh (by decide),λhh=>absurd (hb.2 hh.1) (by simp)⟩
 have hR:=hb.1 rfl
 simp only [aa,seval,vh]
 repeat' ((first|with_reducible refine pG (hl.mono z.inc) cU ?_|((with_reducible apply cn);(· rfl))) <;> simp only [aa,seval,vh])
 obtain ⟨I1,aY⟩:∃ I:Nat->Env->Heap->Prop,I=(λn e h'=>∃ (i:Nat) (h1:Heap),h'=h1.lay [] h1.low/\Ext h h1/\(n=l.length - i/\i<=l.length/\∀ b∈l.take i,b.term.s≠⟨#[]⟩/\¬ (b.term.v=true/\(df l b.term.s).2=true))/\∃ J:Nat->ai,e=(v::jr J 1 9 (v::.int .i64 l.length::.int .i64 i::jr J 13 24 ([])))):=⟨_,rfl⟩
 refine dV I1 _ (by rw [aY];exact ⟨0,_,rfl,z,⟨rfl,by omega,by simp⟩,bw⟩) ?_
 intro n e h' aT
 rw [aY] at aT
 obtain ⟨i,bW,rfl,z,hinv,J,rfl⟩:=aT
 obtain ⟨rfl,hi,aD⟩:=hinv
 have hw:=fe i (by omega)
 simp only [aa,seval,vh]
 refine b9 (λaW=>?_) (λaW=>?_)
 rotate_left
 .simp only [aa,seval,vh]
  rw [iK (by omega)] at aD
  exact hk _ _ z.aw ⟨λ_=>⟨hR,aD⟩,λ_=>rfl⟩
 obtain ⟨r,hr,cv⟩:=ig (l:=l) (i:=i) aW
 have eD:=fV cv
 rcases hg:df l r.term.s with ⟨⟨tv,ts⟩,pb⟩
 simp only [aa,seval,vh]
 repeat' ((first|with_reducible refine vU (hl.mono z.inc) cU kW (by omega) hr (λp hp=>?_)|with_reducible refine HW hp Fe kW ?_) <;> simp only [aa,seval,vh,gy,gA,il,Am.one,gv,eA,yr,av.val,av.cells])
 refine Df l _ r.term.s _ (hl.mono z.aw.inc) hs _ (λh' x=>?_)
 rw [hg]
 have q0:=ak.top (i:=0) x rfl
 (replace z:=z.ao x;rw [aq h'])
 simp only [aa,seval,vh,az.val,az.cells]
 repeat' ((first|((with_reducible apply b9) <;> intro _)|with_reducible refine qC (λ_=>?_) (λ_=>?_)) <;> simp only [aa,seval,vh,gy,gA,il,Am.one,gv,eA,gh,q0.lay])
 all_goals first
  |((with_reducible refine hk _ _ ?_ ?_);(· exact z.aw);(· refine ⟨λhh=>absurd hh (by decide),λhh=>?_⟩;have gE:=hh.2 r eD;rw [hg] at gE;clear aY;exfalso;simp_all))
  |(rw [hw];(refine zu6 z.aw (λH z=>?_));(rw [aY];with_reducible refine cR (m:=_) ?_ ⟨i+1,_,rfl,z,⟨rfl,by omega,uI (i:=i) (P:=λb:av=>b.term.s≠⟨#[]⟩/\¬ (b.term.v=true/\(df l b.term.s).2=true)) cv aD (by rw [hg];simp_all)⟩,bw⟩;omega))
theorem C0 (l:List av) (v:ai) (t:az) (h:Heap) (hl:Sl aF.bind h v l) (hs:l.length<=1000) (K:aL)
 (hk:∀ h',Ext h h'->K (ep l t).val h'):Ok prog aH ov 94 [v,t.val] h K:=by
 rw [aq h]
 have z:=Ext.refl h
 rcases hg:df l t.s with ⟨⟨tv,ts⟩,pb⟩
 unfold ep at hk
 rw [hg] at hk
 refine Ok.aC 19 (bH Wf) ?_
 simp only [aa,seval,Ga,az.val,az.cells]
 repeat' ((first|((with_reducible first|apply b9|apply pK|apply se|apply C7|apply CZ) <;> intro _)) <;> simp only [aa,seval,Ga,EL,gy,gA,il,Am.one,Dz,Bool.true_and,gv,eA,yo,Io,D8,SB,gh,lJ,pC,Ct,yr,az.val,az.cells])
 refine Df l _ t.s _ (hl.lay _ _) hs _ (λh' x=>?_)
 rw [hg]
 have q0:=ak.top (i:=0) x rfl
 have q1:=ak.top (i:=1) x rfl
 (replace z:=z.ao x;rw [aq h'])
 have hz:=z.size
 simp only [aa,seval,Ga,az.val,az.cells]
 repeat' ((with_reducible refine qC (λ_=>?_) (λ_=>?_)) <;> simp only [aa,seval,Ga,gy,gA,il,Am.one,gv,eA,gh,q0.lay])
 all_goals
  refine CT q1 gL rfl rfl rfl (λcK nU c=>?_)
  replace z:=z.aw.step c (by omega)
  rw [aq cK]
  simp only [aa,seval,Ga,nU.lay]
  simp only [*,and_self,and_false,false_and,fF,if_true,if_false] at hk
  exact hk _ z.aw
theorem UE (b:av) (h:Heap) (K:aL)
 (hk:∀ h',Ext h h'->K (.bool (lG b)) h'):Ok prog aH ov 101 [b.val] h K:=by
 rw [aq h]
 have z:=Ext.refl h
 unfold lG at hk
 refine Ok.aC 13 (bH Fl) ?_
 simp only [aa,seval,FZ,av.val,av.cells]
 repeat' ((first|((with_reducible apply b9) <;> intro _)|with_reducible refine qC (λ_=>?_) (λ_=>?_)) <;> simp only [aa,seval,FZ])
 all_goals
  simp only [*,decide_true,decide_false,gv,Bool.and_false,Bool.false_and] at hk
  exact hk _ z.aw
theorem zt8 {P:Program} {T:bx} {t:TypeId} {a b:bf}:bZ P T .gtr t (.string a) (.string b)=some (.bool (slt b a)):=by
 refine JS rfl ?_ rfl
 have e:slt b a = !(slt a b || (a.toList == b.toList)):=by
  rw [zy,zy,Kb]
  cases h1:slt a b
  .cases h2:slt b a
   .have:=zoh h1 h2
    simp [this]
   .have:a≠b:=λhh=>by subst hh;rw [Js] at h2;cases h2
    simp [this]
  .cases h2:slt b a
   .rfl
   .have:=Jx h1 h2
    rw [Js] at this
    cases this
 rw [e]
 unfold Op.stringOp slt
 simp only [zy]
 rfl
theorem zrk (l:List av) (v:ai) (b:av) (i:Nat) (A B:Nat) (h:Heap) (hl:Sl aF.bind h v l) (hs:l.length<=1000) (hi:i < l.length) (q0:ak h A (.row [v] 95 false)) (q1:ak h B (.row b.cells 134 false)) (K:aL)
 (hk:∀ h',Ext h h'->K (.bool (match l[i]? with|some x=>slt b.var x.var|none=>false)) h'):Ok prog aH ov 130 [.int .i64 i,.pointer (some ⟨A,0,none⟩),.pointer (some ⟨B,0,none⟩)] h K:=by
 rw [aq h]
 have z:=Ext.refl h
 obtain ⟨r,hr,cv⟩:=ig (l:=l) (i:=i) (by omega)
 rw [cv] at hk
 unfold av.cells at q1
 refine Ok.aC 10 (bH FI) ?_
 simp only [aa,seval,Ay]
 repeat' ((first|with_reducible refine vU (hl.mono z.inc) cU kW (by omega) hr (λp hp=>?_)|with_reducible refine wG hp uK (λq hq=>?_)|with_reducible refine sc hq yE ?_|with_reducible refine dO (by simp only [Ay]) z.aw ?_|((with_reducible refine ⟨z.cI.lay _ _,?_⟩);(intro _ h' zz x _);(simp only [bK,bu] at x);(replace z:=zz);(clear zz);rw [aq h'])) <;> simp only [aa,seval,Ay,q0.lay,q1.lay,zt8,zrF])
 exact hk _ z.aw
theorem zqP (b:av):cut b.cells 0 3=some b.cells:=rfl
theorem zqC (b:av):Value.agg b.cells.toArray=b.val:=rfl
theorem zkA (b:av):b.val.cells.toList=b.cells:=rfl
theorem Mi (b:av) (h:Heap) (K:aL):aK (some b.val) h K=K b.val h:=rfl
theorem Dy:rH aH 95 95=true:=by kernel_rfl
theorem Mj (b:av) (z0 z1 z2:ai):n8 (λi=>some (i*3,3)) [z0,z1,z2] [(0,b.val)]=some b.cells:=rfl
theorem zzx (l:List av) (v:ai) (b:av) (h:Heap) (hl:Sl aF.bind h v l) (hs:l.length<=1000) (hR:kS l l.length) (K:aL)
 (hk:∀ h' w,Ext h h'->Sl aF.bind h' w (jt l b)->K w h'):Ok prog aH ov 103 [v,b.val] h K:=by
 rw [aq h]
 have z:=Ext.refl h
 have hc:v.cells.toList=[v]:=Mu hl
 have cu:∀ (h:Heap) (K:aL),aK (some v) h K=K v h:=λ_ _=>rfl
 refine Ok.aC 19 (bH Ah) ?_
 simp only [aa,seval,fk,hc,cu,zkA]
 repeat' ((with_reducible refine pG (hl.mono z.inc) cU ?_) <;> simp only [aa,seval,fk])
 refine T3 l.length hs _ (λi=>match l[i]? with|some x=>slt b.var x.var|none=>false) _ (λi eO K' hi xe iw=>?_) _ (λcK i x hi fm mN=>?_)
 .rw [CK]
  have Jc:=z.ao xe
  exact zrk l v b i _ _ eO (hl.mono Jc.inc) hs hi (ak.top (i:=0) xe rfl) (ak.top (i:=1) xe rfl) K' iw
 have q0:=ak.top (i:=0) x rfl
 have q1:=ak.top (i:=1) x rfl
 (replace z:=z.ao x;rw [aq cK])
 have hw:=zrG (b:=b) hR hi fm mN
 rw [hw] at hk
 clear fm mN
 simp only [aa,seval,fk]
 refine (dO (by simp only [fk])) z.aw ?_
 simp only [aa,seval,fk,q0.lay,cu]
 repeat' ((with_reducible refine zny (hl.mono z.inc) cU kW (by omega) (λbase hb=>?_)) <;> simp only [aa,seval,fk,q1.lay,↓zqP,zqC,Mi])
 simp only [aa,seval,Mj]
 refine kO (by have:=z.size;omega) (by omega) ?_
 simp only [bM,seval,fk,j4,Dy]
 have hz:=z.size
 have hlen:(l.take i).length=i:=by rw [hZ];omega
 have lU:Sl aF.bind (cK.lay [bc.row b.cells 134 false] (cK.size+1)) (.slice base (l.take i).length (l.take i).length) (l.take i):=by rw [hlen];exact hb.lay _ _
 obtain ⟨mQ,kC⟩:=EE (A:=(cK.lay [bc.row b.cells 134 false] (cK.size+1)).size) (r:=aF.bind) (c:=1) (y:=b) (by decide) (show (cK.lay [bc.row b.cells 134 false] (cK.size+1)).get (cK.size+0)=some (.row b.cells 134 false) by rw [kM];rfl) rfl
 rw [JX (aS _)] at kC
 obtain ⟨w1,h',e1,o1,x⟩:=zqE (h0:=h) (t:=95) cU xX rfl (by decide) (by rw [bo];omega) lU mQ kC (by omega) (by omega) (by omega)
 rw [hlen] at e1
 rw [e1]
 refine fC (by simp only [bo,dB,cW];omega) (by simpa only [bK,bo,bu,dB,cW,ia] using x) ?_
 (replace z:=z.ao x;replace q0:=q0.over x;rw [aq h'])
 simp only [aa,seval,fk,q0.lay,cu]
 repeat' ((with_reducible refine Mk (hl.mono z.inc) (by decide) cU kW (by omega) (λw2 jg=>?_)) <;> simp only [bM,seval,fk])
 simp only [bM,seval,j4,Dy]
 have AU:(cK.lay [bc.row b.cells 134 false] (cK.size+1)).size=cK.size+1:=by rw [bo];rfl
 rw [AU] at o1
 obtain ⟨news,eX,tS⟩:=ym (A:=cK.size+1) (h:=h'.lay [] (h'.size+0)) (r:=aF.bind) (by decide) (jg.lay _ _) (λcs y hr=>hr)
 have xd:(l.take i++[b]).length=i+1:=by rw [dx,hlen];rfl
 have QO:(l.drop i).length<=1000:=by rw [oe];omega
 have HP:=z.size
 obtain ⟨w3,h3,A3,e3,o3,c3,e4,e5⟩:=uS (t:=95) cU xX rfl (by decide) (by rw [bo];omega) (o1.mono (bQ.lay _ _ _)) eX tS (by rw [xd];omega) (by rw [xd];omega)
 rw [e3]
 simp only [syms,seval]
 refine gR (A:=cK.size+1) (by kernel_rfl) (by rw [bo];omega) (by omega) (by simpa only [bK,bo,bu,dB,cW,ia] using c3) ?_
 replace z:=(z.iG [] (h'.size+0) (by omega)).step c3 (by omega)
 rw [aq h3]
 repeat' (first|simp only [aa,seval,fk]|((with_reducible refine ⟨z.cI.lay _ _,?_⟩);(intro _ h' zz x _);(simp only [bK,bu] at x);replace o3:=o3.over x;(replace z:=zz);(clear zz);rw [aq h']))
 exact hk _ _ z.aw (by have:=(o3.sl (by decide)).lay [] h'.low;simpa only [uX,List.singleton_append] using this)
theorem zqH (s:bf) (t:az):mu aH 134 [(0,.string s),(1,t.val)]=some (av.val ⟨s,t⟩):=by kernel_rfl
theorem zri (l m:List av) (v u:ai) (h:Heap) (hl:Sl aF.bind h v l) (hm:Sl aF.bind h u m) (hs:l.length<=1000) (DZ:m.length<=1000) (K:aL)
 (hk:∀ h' w,Ext h h'->Sl aF.bind h' w (hY l m)->K w h'):Ok prog aH ov 100 [v,u] h K:=by
 rw [aq h]
 have z:=Ext.refl h
 refine Ok.aC 24 (bH Ag) ?_
 simp only [aa,seval,eI]
 repeat' ((with_reducible refine pG (hl.mono z.inc) cU ?_) <;> simp only [aa,seval,eI])
 obtain ⟨I1,aY⟩:∃ I:Nat->Env->Heap->Prop,I=(λn e h'=>∃ (i:Nat) (w:ai) (A:Nat) (h1:Heap),h'=h1.lay [] h1.low/\Ext h h1/\(n=l.length - i/\i<=l.length/\Ow aF.bind h h1 134 A w (hY (l.take i) m))/\∃ J:Nat->ai,e=(v::u::jr J 2 3 (w::jr J 6 2 (v::.int .i64 l.length::.int .i64 i::jr J 11 15 ([]))))):=⟨_,rfl⟩
 refine dV I1 _ (by rw [aY];exact ⟨0,.slice none 0 0,h.size,_,rfl,z,⟨rfl,by omega,Ow.nil (aS _)⟩,bw⟩) ?_
 intro n e h' aT
 rw [aY] at aT
 obtain ⟨i,w,A,bW,rfl,z,hinv,J,rfl⟩:=aT
 obtain ⟨rfl,hi,ho⟩:=hinv
 have hw:=fe i (by omega)
 have hz:=z.size
 simp only [aa,seval,eI]
 refine b9 (λaW=>?_) (λaW=>?_)
 rotate_left
 .repeat' ( simp only [aa,seval,eI])
  rw [iK (by omega)] at ho
  exact hk _ _ z.aw ((ho.sl (by decide)).lay _ _)
 obtain ⟨r,hr,cv⟩:=ig (l:=l) (i:=i) aW
 have eM:=ho.lt
 simp only [aa,seval,eI]
 repeat' ((first|with_reducible refine vU (hl.mono z.inc) cU kW (by omega) hr (λp hp=>?_)|with_reducible refine HW hp Fe kW ?_) <;> simp only [aa,seval,eI,gy,gA,il,Am.one,gv,eA,yr,av.val,av.cells])
 refine (dO (by simp only [eI])) z.aw ?_
 repeat' (simp only [aa,seval,eI])
 refine C0 m u r.term _ ((hm.mono z.inc).lay _ _) DZ _ (λh' x=>?_)
 (((with_reducible refine fC ?_ ?_ ?_);(· exact (by (simp only [fT]);have:=z.size;omega));(· exact x));replace z:=z.ao x;replace ho:=ho.over x;rw [aq h'])
 simp only [aa,seval,eI,zqH,Mi,Mj]
 refine kO (by have:=z.size;omega) (by omega) ?_
 simp only [bM,seval,eI,j4,Dy]
 have hlen:(hY (l.take i) m).length<=1000:=by unfold hY;rw [fN,hZ];omega
 have AU:(h'.lay [bc.row (av.cells ⟨r.var,ep m r.term⟩) 134 false] (h'.size+1)).size=h'.size+1:=by rw [bo];rfl
 have HP:=z.size
 obtain ⟨mQ,kC⟩:=EE (A:=A) (r:=aF.bind) (c:=1) (y:=⟨r.var,ep m r.term⟩) (by decide) (show (h'.lay [bc.row (av.cells ⟨r.var,ep m r.term⟩) 134 false] (h'.size+1)).get (h'.size+0)=some (.row (av.cells ⟨r.var,ep m r.term⟩) 134 false) by rw [kM];rfl) rfl
 obtain ⟨w',DL,A'',e1,e2,e3,e4,e5⟩:=uS (t:=95) cU xX rfl (by decide) (by rw [AU];omega) (ho.mono (bQ.lay _ _ _)) mQ kC (by omega) (by omega)
 have DR:=ho.fresh
 rw [e1]
 simp only [syms,seval]
 refine gR (A:=A) (by kernel_rfl) (by rw [bo];omega) (by omega) (by simpa only [bK,bo,bu,dB,cW,ia] using e3) ?_
 replace z:=(z.iG [bc.row (av.cells ⟨r.var,ep m r.term⟩) 134 false] (h'.size+1) (by omega)).step e3 DR
 have mT:hY (l.take (i+1)) m=hY (l.take i) m++[⟨r.var,ep m r.term⟩]:=by rw [od,cv];unfold hY;rw [rM];rfl
 rw [<- mT] at e2
 clear ho
 rw [aq DL]
 repeat' (first|simp only [aa,seval,eI]|((with_reducible refine ⟨z.cI.lay _ _,?_⟩);(intro _ h' zz x _);(simp only [bK,bu] at x);replace e2:=e2.over x;(replace z:=zz);(clear zz);rw [aq h']))
 rw [hw]
 (rw [aY];with_reducible refine cR (m:=_) ?_ ⟨i+1,_,_,_,rfl,z,⟨rfl,by omega,e2⟩,bw⟩;omega)
theorem zmX (s xs:bf) (xv:Bool):mu aH 134 [(0,.string s),(1,.agg ⟨[.bool xv,.string xs]⟩)]=some (.agg ⟨[.string s,.bool xv,.string xs]⟩):=by kernel_rfl
theorem M8 {e:Int} {K:aL} (h1:e≠0->K (.bool true) h) (h2:e=0->K (.bool false) h):rK (e != 0) h K:=by
 refine ⟨λhh=>h1 (by simpa using hh),λhh=>h2 (by simpa using hh)⟩
theorem zwV {v:ai} (f:Sl aF.bind h v l):∃ b:Bool,bZ prog aH .eql 95 v (.slice none 0 0)=some (.bool b)/\(b=true->l=[]):=by
 rcases f with ⟨rfl,rfl⟩|⟨A,o,c,row,u,ro,rfl,_⟩
 .exact ⟨true,by kernel_rfl,λ_=>rfl⟩
 .exact ⟨false,by kernel_rfl,nofun⟩
theorem zvg (l:List av) (v:ai) (h:Heap) (hl:Sl aF.bind h v l) (hs:l.length<=1000) (K:aL)
 (hk:∀ h' w,Ext h h'->Sl aF.bind h' w l->K w h'):Ok prog aH ov 125 [v] h K:=by
 rw [aq h]
 obtain ⟨b,hb,pg⟩:=zwV hl
 refine Ok.aC 7 (bH FC) ?_
 simp only [aa,seval,wz,hb]
 cases b
 .simp only [aa,seval,wz,j4,Dy]
  obtain ⟨news,hs,lA⟩:=ym (A:=h.size+1) (r:=aF.bind) (by decide) (hl.lay [.row [] 134 false] h.low) (λcs y hr=>hr)
  have f:Ow aF.bind h (h.lay [.row [] 134 false] h.low) 134 (h.size+1) (.slice (some ⟨h.size+0,0,none⟩) 0 0) [] :=
   .inl ⟨by omega,rfl,.inr ⟨h.size+0,0,rfl,by omega,by rw [bo];simp,[],134,false,by rw [kM];rfl⟩⟩
  obtain ⟨w,h',A',e1,e2,e3,e4,e5⟩:=uS (t:=95) cU xX rfl (by decide) (by rw [bo];omega) f hs lA (by simp only [cW];omega) (by simp only [cW];omega)
  rw [e1]
  simp only [aa,seval,wz]
  exact hk _ _ ((Ext.refl h).bY e3 (by omega) (by omega)) (by have:=e2.sl (by decide);simpa using this)
 .simp only [aa,seval,wz]
  rw [pg rfl] at hk
  exact hk _ _ ((Ext.refl h).iG _ _ (by omega)) Sl.nil
theorem zrA {b:av} {u:TypeId} {ro:Bool}:Sl aF.bind (h.lay [.row b.cells u ro] w) (.slice (some ⟨h.size+0,0,none⟩) 1 1) [b]:=by
 refine .inr ⟨h.size+0,0,1,b.cells,u,ro,rfl,(by show 1<=maxLen;decide),.inl ⟨by decide,aS _⟩,by rw [bo];simp,by rw [kM];rfl,λi x hx=>?_⟩
 cases i with
 |zero =>
  simp at hx
  subst hx
  exact ⟨_,rfl,rfl⟩
 |succ i=>simp at hx
theorem zzn (l:List av) (v:ai) (s:bf) (t:az) (h:Heap) (hl:Sl aF.bind h v l) (hs:l.length<=900) (K:aL)
 (hk:∀ h' w e,Ext h h'->(jz l s t=none->e≠0)->(∀ m,jz l s t=some m->e=0/\Sl aF.bind h' w m)->K (.tuple #[w,.int .i64 e]) h'):Ok prog aH ov 93 [v,.string s,t.val] h K:=by
 rw [aq h]
 have z:=Ext.refl h
 rcases hg:df l s with ⟨⟨tv,ts⟩,pb⟩
 obtain ⟨x,hx⟩:∃ x,x=ep l t:=⟨_,rfl⟩
 rcases x with ⟨xv,xs⟩
 unfold jz at hk
 rw [hg,<- hx] at hk
 refine Ok.aC 41 (bH Nq) ?_
 simp only [aa,seval,ic,az.val,az.cells]
 repeat' ((first|((with_reducible first|apply b9|apply pK|apply se|apply C7|apply CZ) <;> intro _)|((with_reducible refine ⟨z.cI.lay _ _,?_⟩);(intro _ h' zz x _);(first|simp only [bK,bu] at x|skip);(replace z:=zz);(clear zz);rw [aq h'])) <;> simp only [aa,seval,ic])
 refine Ey l _ _ (hl.lay _ _) (by omega) _ (λh' e x he=>?_)
 have q0:=ak.top (i:=0) x rfl
 (replace z:=z.ao x;rw [aq h'])
 simp only [aa,seval,ic]
 refine M8 ?_ ?_
 .intro aO
  simp only [aa,seval,ic]
  have gE:¬ kb l:=λhh=>aO (he.2 hh)
  rw [aG gE] at hk
  exact hk _ _ _ z.aw (λ_=>by decide) (λm hm=>by cases hm)
 intro tj
 have hC:=he.1 tj
 rw [aA (by simpa using hC)] at hk
 repeat' (simp only [aa,seval,ic])
 refine Df l _ s _ ((hl.mono z.inc).lay _ _) (by omega) _ (λh' x=>?_)
 rw [hg]
 (replace z:=z.ao x;replace q0:=q0.over x;rw [aq h'])
 simp only [aa,seval,ic,az.val,az.cells]
 repeat' ((first|((with_reducible first|apply b9|apply pK|apply se|apply C7|apply CZ) <;> intro _)|((with_reducible refine ⟨z.cI.lay _ _,?_⟩);(intro _ h' zz x _);(first|simp only [bK,bu] at x|skip);(first|replace q0:=q0.over x|skip);(replace z:=zz);(clear zz);rw [aq h'])) <;> simp only [aa,seval,ic,EL,gy,gA,il,Am.one,Dz,Bool.true_and,gv,eA,yo,Io,D8,SB,gh,lJ,pC,Ct,yr,q0.lay,az.val,az.cells])
 refine qC (λBP=>?_) (λBP=>?_)
 all_goals
  subst BP
  repeat' (simp only [aa,seval,ic,gy,gA,il,Am.one,gv,eA,gh,q0.lay])
  refine C0 l v t _ ((hl.mono z.inc).lay _ _) (by omega) _ (λh' x=>?_)
  rw [<- hx]
  (replace z:=z.ao x;replace q0:=q0.over x;rw [aq h'])
  repeat' (first|simp only [aa,seval,ic,gy,gA,il,Am.one,gv,eA,yr,q0.lay,az.val,az.cells,zmX]|((with_reducible apply b9) <;> intro _))
 all_goals try
  ((with_reducible refine hk _ _ _ z.aw ?_ ?_) <;> (clear hk;intros;first|decide|(exfalso;simp_all)))
 have h1:¬ (s=⟨#[]⟩\/t.s=⟨#[]⟩):=by simp [*]
 rw [aA h1,aA (by simp)] at hk
 refine UE ⟨s,⟨xv,xs⟩⟩ _ _ (λh' x=>?_)
 have q1:=ak.top (i:=0) x rfl
 (replace z:=z.ao x;replace q0:=q0.over x;rw [aq h'])
 cases tI:lG ⟨s,⟨xv,xs⟩⟩
 rotate_left
 .repeat' ( simp only [aa,seval,ic])
  rw [aG tI] at hk
  exact hk _ _ _ z.aw (λ_=>by decide) (λm hm=>by cases hm)
 rw [aA (by rw [tI];decide)] at hk
 repeat' (simp only [aa,seval,ic])
 refine (dO (by simp only [ic])) z.aw ?_
 repeat' (simp only [aa,seval,ic,q1.lay])
 refine kO (by have:=z.size;omega) (by omega) ?_
 simp only [aa,seval,ic]
 refine zri l [⟨s,⟨xv,xs⟩⟩] v _ _ ((hl.mono z.inc).lay _ _) (zrA (b:=⟨s,⟨xv,xs⟩⟩)) (by omega) (by simp) _ (λh' u x hu=>?_)
 (((with_reducible refine fC ?_ ?_ ?_);(· exact (by (simp only [fT]);have:=z.size;omega));(· exact x));replace z:=z.ao x;replace q1:=q1.over x;rw [aq h'])
 repeat' (simp only [aa,seval,ic,q1.lay])
 refine zzx (hY l [⟨s,⟨xv,xs⟩⟩]) u ⟨s,⟨xv,xs⟩⟩ _ (hu.lay _ _) (by unfold hY;rw [fN];omega) (Tu hC.1) _ (λh' w x hw=>?_)
 (((with_reducible refine fC ?_ ?_ ?_);(· exact (by (simp only [fT]);have:=z.size;omega));(· exact x));replace z:=z.ao x;replace q1:=q1.over x;rw [aq h'])
 repeat' (first|simp only [aa,seval,ic]|((with_reducible refine ⟨z.cI.lay _ _,?_⟩);(intro _ h' zz x _);(simp only [bK,bu] at x);replace hw:=hw.over x;(replace z:=zz);(clear zz);rw [aq h']))
 exact hk _ _ _ z.aw (λhm=>by cases hm) (λm hm=>by cases hm;exact ⟨rfl,hw.lay _ _⟩)
theorem zoA (l:List av) (b:av):(jt l b).length=l.length+1:=by
 unfold jt
 rw [dx,dB,<- na,<- dx,Ts]
theorem ZR {m:List av} {s:bf} {t:az} (h:jz l s t=some m):m.length=l.length+1:=by
 unfold jz at h
 split at h
 .cases h
 split at h
 .cases h
 split at h
 .cases h
 split at h
 .cases h
 .cases h
  rw [zoA]
  unfold hY
  rw [fN]
theorem zst (a:ae):fc prog (do let y <- Instr.index 26 (.agg ⟨a.dw⟩) (.int .i64 0);pure (Next.value y))=some (.value (a.arg 0).val):=by kernel_rfl
theorem zsu (a:ae):fc prog (do let y <- Instr.index 26 (.agg ⟨a.dw⟩) (.int .i64 1);pure (Next.value y))=some (.value (a.arg 1).val):=by kernel_rfl
theorem zsv (a:ae):fc prog (do let y <- Instr.index 26 (.agg ⟨a.dw⟩) (.int .i64 2);pure (Next.value y))=some (.value (a.arg 2).val):=by kernel_rfl
theorem zsw (a:ae):fc prog (do let y <- Instr.index 26 (.agg ⟨a.dw⟩) (.int .i64 3);pure (Next.value y))=some (.value (a.arg 3).val):=by kernel_rfl
theorem zuX (a:ae) (k:Nat) (h:k < 4):fc prog (do let y <- Instr.index 26 (.agg ⟨a.dw⟩) (.int .i64 k);pure (Next.value y))=some (.value (a.arg k).val):=by
 have:k=0\/k=1\/k=2\/k=3:=by omega
 rcases this with rfl|rfl|rfl|rfl
 .exact zst a
 .exact zsu a
 .exact zsv a
 .exact zsw a
theorem znB {d:Option Tmp} {ty:TypeId} {pos:String} {af:Array Edge} {g:Option (Nat × Bool)} {x i:Operand} {K:aL} {a:ae} {k:Nat} (G3:k < 4) (hx:br e x=.agg ⟨a.dw⟩) (hi:br e i=.int .i64 k)
 (hK:K (a.arg k).val h):da (fB prog e ⟨d,.index 26 x i,ty,pos,af,g⟩ h) K:=by
 have:fB prog e ⟨d,.index 26 x i,ty,pos,af,g⟩ h=some ((a.arg k).val,h):=by
  unfold fB
  have hp:plain (.agg ⟨a.dw⟩)=true:=rfl
  have vu:plain (.int .i64 (k:Int))=true:=rfl
  rw [aG (by simp [Op.operands,hx,hi,hp,vu])]
  have:fc prog (execOp (br e) ⟨d,.index 26 x i,ty,pos,af,g⟩)=some (.value (a.arg k).val):=by
   simp only [execOp,hx,hi]
   exact zuX a k G3
  rw [this]
  rfl
 rw [this]
 exact hK
theorem zw0 (a b:ae) (h:Heap) (K:aL)
 (hk:∀ h',Ext h h'->K (.bool (lM a b)) h'):Ok prog aH ov 124 [a.val,b.val] h K:=by
 rw [aq h]
 have z:=Ext.refl h
 refine Ok.aC 32 (bH FB) ?_
 simp only [aa,seval,F6,ae.val,ae.cells]
 repeat' (((with_reducible first|apply b9|apply pK) <;> intro _) <;> simp only [aa,seval,F6])
 all_goals first
  |(have e:lM a b=true:=by
     unfold lM
     simp only [dj,iC]
     refine ⟨?_,?_,?_,?_,?_⟩ <;> first|assumption|omega
    rw [e] at hk
    exact hk _ z.aw)
  |(have e:lM a b=false:=by
     cases he:lM a b
     .rfl
     .exfalso
      unfold lM at he
      simp only [dj,iC] at he
      obtain ⟨e1,e2,e3,e4,e5⟩:=he
      first|contradiction|omega
    rw [e] at hk
    exact hk _ z.aw)
theorem ZG {p g:ae} {k:Nat} (h:pH p g k l=none) (Bz:k<=m):pH p g m l=none:=by
 induction m with
 |zero =>
  have:k=0:=by omega
  subst this
  exact h
 |succ m ih =>
  by_cases he:k=m+1
  .subst he;exact h
  .unfold pH
   rw [ih (by omega)]
   rfl
theorem Es {I:Nat->Env->Heap->Prop} {Q:Ex->Env->Heap->Prop} {x:Ex} {h0 h1:Heap} {bs:List bc} (z:Ext h0 (h1.lay bs w)) (hk:∀ H,Ext h0 H->(∀ A b,ak h1 A b->ak H A b)->bQ h1 H->zZ I m Q x e (H.lay [] H.low)):zZ I m Q x e (h1.lay bs w):=by
 have:=hk _ z (λA b q=>q.on bs w) (bQ.lay _ _ _)
 rwa [<- aq] at this
theorem Kw (a:ae):a.cells[2]? = some (.int .i64 a.n):=rfl
theorem znd (a:ae):cut a.cells 3 8=some a.dw:=rfl
theorem JN (a:ae) (k:Nat) (hk:k < 4):cut a.cells (3+k*2) 2=some (a.arg k).cells:=by
 have:k=0\/k=1\/k=2\/k=3:=by omega
 rcases this with rfl|rfl|rfl|rfl <;> rfl
theorem zAy (l:List av) (v:ai) (p g:ae) (h:Heap) (hl:Sl aF.bind h v l) (hs:l.length<=890) (K:aL)
 (hk:∀ h' w b,Ext h h'->(cz l p g=none->b=false)->(∀ m,cz l p g=some m->b=true/\Sl aF.bind h' w m)->K (.tuple #[w,.bool b]) h'):Ok prog aH ov 97 [v,p.val,g.val] h K:=by
 rw [aq h]
 have z:=Ext.refl h
 refine Ok.aC 118 (bH Wi) ?_
 repeat' (simp only [aa,seval,jF,iB])
 refine Ey l _ _ ((hl.mono z.inc).lay _ _) (by omega) _ (λh' e x he=>?_)
 have q0:=ak.top (i:=0) x rfl
 have q1:=ak.top (i:=1) x rfl
 (replace z:=z.ao x;rw [aq h'])
 simp only [aa,seval,jF]
 refine M8 ?_ ?_
 .intro aO
  repeat' (simp only [aa,seval,jF])
  have hn:cz l p g=none:=by unfold cz;rw [aG (.inl (λhh=>aO (he.2 hh)))]
  exact hk _ _ _ z.aw (λ_=>rfl) (λm hm=>by rw [hn] at hm;cases hm)
 intro tj
 have hC:=he.1 tj
 simp only [aa,seval,jF,q0.lay,q1.lay,↓eH,dJ,dt]
 refine zw0 p g _ _ (λh' x=>?_)
 (replace z:=z.ao x;replace q0:=q0.over x;replace q1:=q1.over x;rw [aq h'])
 cases oo:lM p g
 .repeat' (first|simp only [aa,seval,jF]|((with_reducible apply cn);(· rfl)))
  have hn:cz l p g=none:=by unfold cz;rw [aG (.inr (.inl oo))]
  exact hk _ _ _ z.aw (λ_=>rfl) (λm hm=>by rw [hn] at hm;cases hm)
 repeat' (first|simp only [aa,seval,jF,q1.lay,↓eH,dJ,dt]|((with_reducible apply cn);(· rfl)))
 refine znU g _ _ (λh' x=>?_)
 (replace z:=z.ao x;replace q0:=q0.over x;replace q1:=q1.over x;rw [aq h'])
 cases La:g.ground
 .repeat' (first|simp only [aa,seval,jF]|((with_reducible apply cn);(· rfl)))
  have hn:cz l p g=none:=by unfold cz;rw [aG (.inr (.inr La))]
  exact hk _ _ _ z.aw (λ_=>rfl) (λm hm=>by rw [hn] at hm;cases hm)
 repeat' (first|simp only [aa,seval,jF,q0.lay,↓znd]|((with_reducible apply cn);(· rfl)))
 have hp4:0<=p.n/\p.n<=4:=by
  unfold lM at oo
  simp only [dj,iC] at oo
  exact oo.2.2.2
 obtain ⟨I1,aY⟩:∃ I:Nat->Env->Heap->Prop,I=(λn e h'=>∃ (k:Nat) (h1:Heap),h'=h1.lay [] h1.low/\Ext h h1/\(n=4 - k/\k<=4/\(∀ i,i < k->(i:Int) < p.n->oN l (p.arg i)=false)/\ak h1 (h.size+0) (.row p.cells 28 false)/\ak h1 (h.size+1) (.row g.cells 28 false))/\∃ J:Nat->ai,e=(v::jr J 1 3 (.pointer (some ⟨h.size+0,0,none⟩)::.pointer (some ⟨h.size+1,0,none⟩)::jr J 6 30 (.agg ⟨p.dw⟩::.int .i64 k::jr J 38 83 ([]))))):=⟨_,rfl⟩
 refine dV I1 _ (by rw [aY];exact ⟨0,_,rfl,z,⟨rfl,by omega,by intro i hi;omega,q0,q1⟩,bw⟩) ?_
 intro n e h' aT
 rw [aY] at aT
 obtain ⟨k,bW,rfl,z,hinv,J,rfl⟩:=aT
 clear q0 q1
 obtain ⟨rfl,G3,GC,q0,q1⟩:=hinv
 have hw:=fe k (by omega)
 simp only [aa,seval,jF]
 refine b9 (λaW=>?_) (λaW=>?_)
 rotate_left
 .repeat' ( simp only [aa,seval,jF])
  have GD:¬ ∃ i:Nat,i < 4/\(i:Int) < p.n/\oN l (p.arg i)=true:=by
   rintro ⟨i,g1,g2,g3⟩
   rw [GC i (by omega) g2] at g3
   cases g3
  have wW:cz l p g=pH p g p.n.toNat l:=by
   unfold cz
   rw [aA (by simp [hC,oo,La]),aA GD]
  refine zvg l v _ ((hl.mono z.inc).lay _ _) (by omega) _ (λh' w x jL=>?_)
  (replace z:=z.ao x;replace q0:=q0.over x;replace q1:=q1.over x;rw [aq h'])
  repeat' (simp only [aa,seval,jF,q0.lay,↓znd])
  obtain ⟨I2,fI⟩:∃ I:Nat->Env->Heap->Prop,I=(λn e h'=>∃ (k:Nat) (out:List av) (w:ai) (h1:Heap),h'=h1.lay [] h1.low/\Ext h h1/\(n=4 - k/\k<=4/\k<=p.n.toNat/\pH p g k l=some out/\Sl aF.bind h1 w out/\out.length<=l.length+k/\ak h1 (h.size+0) (.row p.cells 28 false)/\ak h1 (h.size+1) (.row g.cells 28 false))/\∃ J:Nat->ai,e=(jr J 0 4 (.pointer (some ⟨h.size+0,0,none⟩)::.pointer (some ⟨h.size+1,0,none⟩)::jr J 6 6 (w::.bool true::jr J 14 58 (.agg ⟨p.dw⟩::.int .i64 k::jr J 74 47 ([])))))):=⟨_,rfl⟩
  refine dV I2 _ (by rw [fI];exact ⟨0,l,w,_,rfl,z,⟨rfl,by omega,by omega,rfl,jL,by omega,q0,q1⟩,bw⟩) ?_
  intro n e h' aT
  rw [fI] at aT
  obtain ⟨k,out,w,cK,rfl,z,hinv,J,rfl⟩:=aT
  clear q0 q1
  obtain ⟨rfl,G3,G5,xu,fp,hlen,q0,q1⟩:=hinv
  have hw:=fe k (by omega)
  simp only [aa,seval,jF]
  refine b9 (λaW=>?_) (λaW=>?_)
  rotate_left
  .repeat' (first|simp only [aa,seval,jF]|((with_reducible apply cn);(· rfl)))
   have ot:p.n.toNat=k:=by omega
   rw [wW,ot,xu] at hk
   exact hk _ _ _ z.aw (λhm=>by cases hm) (λm hm=>by cases hm;exact ⟨rfl,fp.lay _ _⟩)
  rcases hg:df out (p.arg k).s with ⟨⟨tv,ts⟩,pb⟩
  have G2:(0:Int)<=(k:Int)/\(k:Int) < 4:=by omega
  have kj:=JN g k (by omega)
  have AX:∀ (Q:Ex->Env->Heap->Prop) (e:Env) (h:Heap),uN 3 Q (.exit 2) e h=Q (.exit 2) e h:=λQ e h=>zkf 3 2 Q e h rfl
  simp only [aa,seval,jF]
  repeat' ((first|((with_reducible apply pK) <;> intro _)|(with_reducible refine znB (by omega) rfl rfl ?_)|((with_reducible apply cn);(· rfl))) <;> simp only [aa,seval,jF,gy,gA,il,Am.one,gv,eA,yo,gh,q0.lay,q1.lay,Kw,az.val,az.cells,G2,↓kj,AX])
  .have ot:p.n.toNat=k:=by omega
   rw [wW,ot,xu] at hk
   exact hk _ _ _ z.aw (λhm=>by cases hm) (λm hm=>by cases hm;exact ⟨rfl,fp.lay _ _⟩)
  have mc:pH p g (k+1) l=qA out (p.arg k) (g.arg k):=by
   conv=>lhs;unfold pH
   rw [xu]
   rfl
  refine Df out w (p.arg k).s _ (fp.lay _ _) (by omega) _ (λh' x=>?_)
  rw [hg]
  have q2:=ak.top (i:=0) x rfl
  have q3:=ak.top (i:=1) x rfl
  replace fp:=fp.over x
  (replace z:=z.ao x;replace q0:=q0.over x;replace q1:=q1.over x;rw [aq h'])
  simp only [aa,seval,jF,az.val,az.cells]
  repeat' ((first|((with_reducible apply b9) <;> intro _)|with_reducible refine qC (λ_=>?_) (λ_=>?_)|((with_reducible apply cn);(· rfl))) <;> simp only [aa,seval,jF,gy,gA,il,Am.one,gv,eA,gh,q2.lay,q3.lay,zku,AX])
  all_goals try first
   |((with_reducible refine hk _ _ _ z.aw (λ_=>rfl) (λm hm=>?_))
     have tJ:qA out (p.arg k) (g.arg k)=none:=by
      unfold qA
      rw [hg]
      first
       |rw [aG (by assumption),aA (by assumption)]
       |rw [aA (by simp [*]),aG (by assumption),aA (by assumption)]
     have hn:cz l p g=none:=by
      rw [wW]
      exact ZG (k:=k+1) (by rw [mc,tJ]) (by omega)
     rw [hn] at hm
     cases hm)
   |(have tJ:qA out (p.arg k) (g.arg k)=some out:=by
      unfold qA
      rw [hg]
      first
       |rw [aG (by assumption),aG (by assumption)]
       |rw [aA (by simp [*]),aG (by assumption),aG (by assumption)]
     rw [hw]
     refine Es z.aw (λH z hO hI=>?_)
     (rw [fI];with_reducible refine cR (m:=_) ?_ ⟨k+1,out,w,_,rfl,z,⟨rfl,by omega,by omega,by rw [mc,tJ],fp.mono hI,by omega,hO _ _ q0,hO _ _ q1⟩,bw⟩;omega))
  have tJ:qA out (p.arg k) (g.arg k)=jz out (p.arg k).s (g.arg k):=by
   unfold qA
   rw [hg,aA (by simp [*]),aA (by simp [*])]
  refine zzn out w (p.arg k).s (g.arg k) _ (fp.lay _ _) (by omega) _ (λh' w2 e x K3 AZ=>?_)
  (replace z:=z.ao x;replace q0:=q0.over x;replace q1:=q1.over x;rw [aq h'])
  have cu:∀ (h:Heap) (K:aL),aK (some w2) h K=K w2 h:=λ_ _=>rfl
  by_cases wT:e=0
  .have AY:(e == 0)=true:=by simpa using wT
   simp only [aa,seval,jF,cu,AY]
   repeat' (((with_reducible apply cn);(· rfl)) <;> simp only [aa,seval,jF])
   cases fO:jz out (p.arg k).s (g.arg k) with
   |none=>exact absurd wT (K3 fO)
   |some m =>
    have gx:=(AZ m fO).2
    have Hc:=ZR fO
    rw [hw]
    (rw [fI];with_reducible refine cR (m:=_) ?_ ⟨k+1,m,w2,_,rfl,z,⟨rfl,by omega,by omega,by rw [mc,tJ,fO],gx,by omega,q0,q1⟩,bw⟩;omega)
  .have AY:(e == 0)=false:=by simpa using wT
   simp only [aa,seval,jF,cu,AY]
   repeat' (((with_reducible apply cn);(· rfl)) <;> simp only [aa,seval,jF,AX])
   have hn:cz l p g=none:=by
    rw [wW]
    refine ZG (k:=k+1) ?_ (by omega)
    rw [mc,tJ]
    cases fO:jz out (p.arg k).s (g.arg k) with
    |none=>rfl
    |some m=>exact absurd (AZ m fO).1 wT
   exact hk _ _ _ z.aw (λ_=>rfl) (λm hm=>by rw [hn] at hm;cases hm)
 rcases hg:df l (p.arg k).s with ⟨⟨tv,ts⟩,pb⟩
 simp only [aa,seval,jF]
 repeat' ((with_reducible refine znB (by omega) rfl rfl ?_) <;> simp only [aa,seval,jF,gy,gA,il,Am.one,gv,eA,gh,az.val,az.cells])
 refine Df l v (p.arg k).s _ (hl.mono z.aw.inc) (by omega) _ (λh' x=>?_)
 rw [hg]
 have q2:=ak.top (i:=0) x rfl
 (replace z:=z.ao x;replace q0:=q0.over x;replace q1:=q1.over x;rw [aq h'])
 simp only [aa,seval,jF,az.val,az.cells]
 repeat' ((first|((with_reducible apply b9) <;> intro _)|with_reducible refine qC (λ_=>?_) (λ_=>?_)) <;> simp only [aa,seval,jF,gy,gA,il,Am.one,gv,eA,gh,q0.lay,q2.lay,Kw])
 all_goals first
  |((with_reducible refine hk _ _ _ z.aw (λ_=>rfl) (λm hm=>?_))
    have hb:oN l (p.arg k)=true:=by (unfold oN;rw [hg];simp [*])
    have hn:cz l p g=none:=by
     unfold cz
     split
     .rfl
     .rw [aG ⟨k,by omega,by omega,hb⟩]
    rw [hn] at hm
    cases hm)
  |(have BK:∀ i,i < k+1->(i:Int) < p.n->oN l (p.arg i)=false:=by
     intro i hi aT
     by_cases tt:i=k
     .subst tt
      first|(exfalso;omega)|(unfold oN;rw [hg];simp [*])
     .exact GC i (by omega) aT
    rw [hw]
    refine Es z.aw (λH z hO _=>?_)
    (rw [aY];with_reducible refine cR (m:=_) ?_ ⟨k+1,_,rfl,z,⟨rfl,by omega,BK,hO _ _ q0,hO _ _ q1⟩,bw⟩;omega))
end Go.Proofs.YtnkmeidmdaidhaaGreatDoor
