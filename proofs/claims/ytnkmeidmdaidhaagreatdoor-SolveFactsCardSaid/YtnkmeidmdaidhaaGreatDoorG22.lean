/- Walks: bindings: may they be Written out by fill2.py. No condition. -/
import Derived.Test.YtnkmeidmdaidhaaGreatDoorG21
set_option linter.unusedSimpArgs false
set_option linter.unusedVariables false
set_option maxRecDepth 100000
set_option maxHeartbeats 0
namespace Go.Proofs.YtnkmeidmdaidhaaGreatDoor
open Go.Am Tryz
variable {m w:Nat} {e:Env} {h:Heap} {l:List au}
theorem zw2 {I:Nat->Env->Heap->Prop} {Q:Ex->Env->Heap->Prop} {x:Ex} {h0 h1:Heap} {bs:List aZ} (z:Ext h0 (h1.lay bs w)) (hk:∀ H,Ext h0 H->Dl I m Q x e (H.lay [] H.low)):Dl I m Q x e (h1.lay bs w):=by
 have:=hk _ z
 rwa [<- aw] at this
theorem HM (l:List au) (v:ai) (h:Heap) (hl:Sl aC.bind h v l) (hs:l.length<=1000) (K:aJ)
 (hk:∀ h' e,Ext h h'->(e=0↔eG l)->K (.int .i64 e) h'):Ok prog aH ov 98 [v] h K:=by
 rw [aw h]
 have z:=Ext.refl h
 refine Ok.aA 36 (bH N98) ?_
 repeat' (simp only [aa,seval,yj])
 refine zsL l _ _ (hl.lay _ _) hs _ (λh' b x hb=>?_)
 (replace z:=z.ao x;rw [aw h'])
 cases b
 .repeat' (first|simp only [aa,seval,yj]|((with_reducible apply cf);(· rfl)))
  refine hk _ _ ?_ ?_
  .exact z.av
  .exact ⟨λhh=>absurd hh (by decide),λhh=>absurd (hb.2 hh.1) (by simp)⟩
 have hR:=hb.1 rfl
 simp only [aa,seval,yj]
 repeat' ((first|with_reducible refine q9 (hl.mono z.inc) dB ?_|((with_reducible apply cf);(· rfl))) <;> simp only [aa,seval,yj])
 obtain ⟨I1,aX⟩:∃ I:Nat->Env->Heap->Prop,I=(λn e h'=>∃ (i:Nat) (h1:Heap),h'=h1.lay [] h1.low/\Ext h h1/\(n=l.length - i/\i<=l.length/\∀ b∈l.take i,b.term.s≠⟨#[]⟩/\¬ (b.term.v=true/\(bE l b.term.s).2=true))/\∃ J:Nat->ai,e=(v::jr J 1 9 (v::.int .i64 l.length::.int .i64 i::jr J 13 24 ([])))):=⟨_,rfl⟩
 refine dN I1 _ (by rw [aX];exact ⟨0,_,rfl,z,⟨rfl,by omega,by simp⟩,bo⟩) ?_
 intro n e h' aP
 rw [aX] at aP
 obtain ⟨i,bU,rfl,z,hinv,J,rfl⟩:=aP
 obtain ⟨rfl,hi,aB⟩:=hinv
 have hw:=eE i (by omega)
 simp only [aa,seval,yj]
 refine bS (λaT=>?_) (λaT=>?_)
 rotate_left
 .simp only [aa,seval,yj]
  rw [gb (by omega)] at aB
  exact hk _ _ z.av ⟨λ_=>⟨hR,aB⟩,λ_=>rfl⟩
 obtain ⟨r,hr,cw⟩:=gC (l:=l) (i:=i) aT
 have dR:=en cw
 rcases hg:bE l r.term.s with ⟨⟨tv,ts⟩,pb⟩
 simp only [aa,seval,yj]
 repeat' ((first|with_reducible refine yX (hl.mono z.inc) dB mT (by omega) hr (λp hp=>?_)|with_reducible refine Lg hp Im mT ?_) <;> simp only [aa,seval,yj,iy,gS,iI,Am.one,im,gd,BF,au.val,au.cells])
 refine F8 l _ r.term.s _ (hl.mono z.av.inc) hs _ (λh' x=>?_)
 rw [hg]
 have q0:=Holds.top (i:=0) x rfl
 (replace z:=z.ao x;rw [aw h'])
 simp only [aa,seval,yj,ay.val,ay.cells]
 repeat' ((first|((with_reducible apply bS) <;> intro _)|with_reducible refine tj (λ_=>?_) (λ_=>?_)) <;> simp only [aa,seval,yj,iy,gS,iI,Am.one,im,gd,gN,q0.lay])
 all_goals first
  |((with_reducible refine hk _ _ ?_ ?_);(· exact z.av);(· refine ⟨λhh=>absurd hh (by decide),λhh=>?_⟩;have hZ:=hh.2 r dR;rw [hg] at hZ;clear aX;exfalso;simp_all))
  |(rw [hw];(refine zw2 z.av (λH z=>?_));(rw [aX];with_reducible refine cF (m:=_) ?_ ⟨i+1,_,rfl,z,⟨rfl,by omega,rY (i:=i) (P:=λb:au=>b.term.s≠⟨#[]⟩/\¬ (b.term.v=true/\(bE l b.term.s).2=true)) cw aB (by rw [hg];simp_all)⟩,bo⟩;omega))
theorem FW (l:List au) (v:ai) (t:ay) (h:Heap) (hl:Sl aC.bind h v l) (hs:l.length<=1000) (K:aJ)
 (hk:∀ h',Ext h h'->K (cu l t).val h'):Ok prog aH ov 94 [v,t.val] h K:=by
 rw [aw h]
 have z:=Ext.refl h
 rcases hg:bE l t.s with ⟨⟨tv,ts⟩,pb⟩
 unfold cu at hk
 rw [hg] at hk
 refine Ok.aA 19 (bH N94) ?_
 simp only [aa,seval,Jx,ay.val,ay.cells]
 repeat' ((first|((with_reducible first|apply bS|apply qL|apply qM|apply Bv|apply F4) <;> intro _)) <;> simp only [aa,seval,Jx,HV,iy,gS,iI,Am.one,Gv,Bool.true_and,im,gd,ze,LB,Ha,WG,gN,lI,rV,Fp,BF,ay.val,ay.cells])
 refine F8 l _ t.s _ (hl.lay _ _) hs _ (λh' x=>?_)
 rw [hg]
 have q0:=Holds.top (i:=0) x rfl
 have q1:=Holds.top (i:=1) x rfl
 (replace z:=z.ao x;rw [aw h'])
 have hz:=z.size
 simp only [aa,seval,Jx,ay.val,ay.cells]
 repeat' ((with_reducible refine tj (λ_=>?_) (λ_=>?_)) <;> simp only [aa,seval,Jx,iy,gS,iI,Am.one,im,gd,gN,q0.lay])
 all_goals
  refine FQ q1 i4 rfl rfl rfl (λdc qG c=>?_)
  replace z:=z.av.step c (by omega)
  rw [aw dc]
  simp only [aa,seval,Jx,qG.lay]
  simp only [*,and_self,and_false,false_and,gX,if_true,if_false] at hk
  exact hk _ z.av
theorem Za (b:au) (h:Heap) (K:aJ)
 (hk:∀ h',Ext h h'->K (.bool (mL b)) h'):Ok prog aH ov 101 [b.val] h K:=by
 rw [aw h]
 have z:=Ext.refl h
 unfold mL at hk
 refine Ok.aA 13 (bH Is) ?_
 simp only [aa,seval,Jh,au.val,au.cells]
 repeat' ((first|((with_reducible apply bS) <;> intro _)|with_reducible refine tj (λ_=>?_) (λ_=>?_)) <;> simp only [aa,seval,Jh])
 all_goals
  simp only [*,decide_true,decide_false,im,Bool.and_false,Bool.false_and] at hk
  exact hk _ z.av
theorem zvU {P:Program} {T:bJ} {t:TypeId} {a b:aU}:cA P T .gtr t (.string a) (.string b)=some (.bool (slt b a)):=by
 refine Nx rfl ?_ rfl
 have e:slt b a = !(slt a b || (a.toList == b.toList)):=by
  rw [CL,CL,NK]
  cases h1:slt a b
  .cases h2:slt b a
   .have:=zpB h1 h2
    simp [this]
   .have:a≠b:=λhh=>by subst hh;rw [Hr] at h2;cases h2
    simp [this]
  .cases h2:slt b a
   .rfl
   .have:=MX h1 h2
    rw [Hr] at this
    cases this
 rw [e]
 unfold Op.stringOp slt
 simp only [CL]
 rfl
theorem zsP (l:List au) (v:ai) (b:au) (i:Nat) (A B:Nat) (h:Heap) (hl:Sl aC.bind h v l) (hs:l.length<=1000) (hi:i < l.length) (q0:Holds h A (.row [v] 95 false)) (q1:Holds h B (.row b.cells 134 false)) (K:aJ)
 (hk:∀ h',Ext h h'->K (.bool (match l[i]? with|some x=>slt b.var x.var|none=>false)) h'):Ok prog aH ov 130 [.int .i64 i,.pointer (some ⟨A,0,none⟩),.pointer (some ⟨B,0,none⟩)] h K:=by
 rw [aw h]
 have z:=Ext.refl h
 obtain ⟨r,hr,cw⟩:=gC (l:=l) (i:=i) (by omega)
 rw [cw] at hk
 unfold au.cells at q1
 refine Ok.aA 10 (bH IV) ?_
 simp only [aa,seval,DC]
 repeat' ((first|with_reducible refine yX (hl.mono z.inc) dB mT (by omega) hr (λp hp=>?_)|with_reducible refine zH hp xP (λq hq=>?_)|with_reducible refine qJ hq uO ?_|with_reducible refine ez (by simp only [DC]) z.av ?_|((with_reducible refine ⟨z.cU.lay _ _,?_⟩);(intro _ h' zz x _);(simp only [bY,bC] at x);(replace z:=zz);(clear zz);rw [aw h'])) <;> simp only [aa,seval,DC,q0.lay,q1.lay,zvU,zth])
 exact hk _ z.av
theorem zsh (b:au):cut b.cells 0 3=some b.cells:=rfl
theorem zr4 (b:au):Value.agg b.cells.toArray=b.val:=rfl
theorem zlq (b:au):b.val.cells.toList=b.cells:=rfl
theorem Qf (b:au) (h:Heap) (K:aJ):aK (some b.val) h K=K b.val h:=rfl
theorem Gu:td aH 95 95=true:=by kernel_rfl
theorem P7 (b:au) (z0 z1 z2:ai):pA (λi=>some (i*3,3)) [z0,z1,z2] [(0,b.val)]=some b.cells:=rfl
theorem zBT (l:List au) (v:ai) (b:au) (h:Heap) (hl:Sl aC.bind h v l) (hs:l.length<=1000) (hR:lZ l l.length) (K:aJ)
 (hk:∀ h' w,Ext h h'->Sl aC.bind h' w (kE l b)->K w h'):Ok prog aH ov 103 [v,b.val] h K:=by
 rw [aw h]
 have z:=Ext.refl h
 have hc:v.cells.toList=[v]:=Qw hl
 have cX:∀ (h:Heap) (K:aJ),aK (some v) h K=K v h:=λ_ _=>rfl
 refine Ok.aA 19 (bH Ds) ?_
 simp only [aa,seval,gG,hc,cX,zlq]
 repeat' ((with_reducible refine q9 (hl.mono z.inc) dB ?_) <;> simp only [aa,seval,gG])
 refine X7 l.length hs _ (λi=>match l[i]? with|some x=>slt b.var x.var|none=>false) _ (λi ec K' hi xe ju=>?_) _ (λdc i x hi gJ o0=>?_)
 .rw [FC]
  have Mx:=z.ao xe
  exact zsP l v b i _ _ ec (hl.mono Mx.inc) hs hi (Holds.top (i:=0) xe rfl) (Holds.top (i:=1) xe rfl) K' ju
 have q0:=Holds.top (i:=0) x rfl
 have q1:=Holds.top (i:=1) x rfl
 (replace z:=z.ao x;rw [aw dc])
 have hw:=ztk (b:=b) hR hi gJ o0
 rw [hw] at hk
 clear gJ o0
 simp only [aa,seval,gG]
 refine (ez (by simp only [gG])) z.av ?_
 simp only [aa,seval,gG,q0.lay,cX]
 repeat' ((with_reducible refine zoM (hl.mono z.inc) dB mT (by omega) (λbase hb=>?_)) <;> simp only [aa,seval,gG,q1.lay,↓zsh,zr4,Qf])
 simp only [aa,seval,P7]
 refine ni (by have:=z.size;omega) (by omega) ?_
 simp only [cm,seval,gG,jF,Gu]
 have hz:=z.size
 have hlen:(l.take i).length=i:=by rw [gR];omega
 have lU:Sl aC.bind (dc.lay [aZ.row b.cells 134 false] (dc.size+1)) (.slice base (l.take i).length (l.take i).length) (l.take i):=by rw [hlen];exact hb.lay _ _
 obtain ⟨ji,mH⟩:=Bo (A:=(dc.lay [aZ.row b.cells 134 false] (dc.size+1)).size) (r:=aC.bind) (c:=1) (y:=b) (by decide) (show (dc.lay [aZ.row b.cells 134 false] (dc.size+1)).get (dc.size+0)=some (.row b.cells 134 false) by rw [jG];rfl) rfl
 rw [Nq (aR _)] at mH
 obtain ⟨w1,h',e1,o1,x⟩:=zr6 (h0:=h) (t:=95) dB Be rfl (by decide) (by rw [bh];omega) lU ji mH (by omega) (by omega) (by omega)
 rw [hlen] at e1
 rw [e1]
 refine ix (by simp only [bh,ek,db];omega) (by simpa only [bY,bh,bC,ek,db,iA] using x) ?_
 (replace z:=z.ao x;replace q0:=q0.over x;rw [aw h'])
 simp only [aa,seval,gG,q0.lay,cX]
 repeat' ((with_reducible refine P8 (hl.mono z.inc) (by decide) dB mT (by omega) (λw2 iB=>?_)) <;> simp only [cm,seval,gG])
 simp only [cm,seval,jF,Gu]
 have sH:(dc.lay [aZ.row b.cells 134 false] (dc.size+1)).size=dc.size+1:=by rw [bh];rfl
 rw [sH] at o1
 obtain ⟨news,eQ,rO⟩:=xR (A:=dc.size+1) (h:=h'.lay [] (h'.size+0)) (r:=aC.bind) (by decide) (iB.lay _ _) (λcs y hr=>hr)
 have Ad:(l.take i++[b]).length=i+1:=by rw [cE,hlen];rfl
 have UR:(l.drop i).length<=1000:=by rw [mf];omega
 have xj:=z.size
 obtain ⟨w3,h3,A3,e3,o3,c3,e4,e5⟩:=sb (t:=95) dB Be rfl (by decide) (by rw [bh];omega) (o1.mono (bN.lay _ _ _)) eQ rO (by rw [Ad];omega) (by rw [Ad];omega)
 rw [e3]
 simp only [syms,seval]
 refine iL (A:=dc.size+1) (by kernel_rfl) (by rw [bh];omega) (by omega) (by simpa only [bY,bh,bC,ek,db,iA] using c3) ?_
 replace z:=(z.jC [] (h'.size+0) (by omega)).step c3 (by omega)
 rw [aw h3]
 repeat' (first|simp only [aa,seval,gG]|((with_reducible refine ⟨z.cU.lay _ _,?_⟩);(intro _ h' zz x _);(simp only [bY,bC] at x);replace o3:=o3.over x;(replace z:=zz);(clear zz);rw [aw h']))
 exact hk _ _ z.av (by have:=(o3.sl (by decide)).lay [] h'.low;simpa only [se,List.singleton_append] using this)
theorem zr9 (s:aU) (t:ay):lL aH 134 [(0,.string s),(1,t.val)]=some (au.val ⟨s,t⟩):=by kernel_rfl
theorem zsM (l m:List au) (v u:ai) (h:Heap) (hl:Sl aC.bind h v l) (hm:Sl aC.bind h u m) (hs:l.length<=1000) (G1:m.length<=1000) (K:aJ)
 (hk:∀ h' w,Ext h h'->Sl aC.bind h' w (gE l m)->K w h'):Ok prog aH ov 100 [v,u] h K:=by
 rw [aw h]
 have z:=Ext.refl h
 refine Ok.aA 24 (bH Dr) ?_
 simp only [aa,seval,fP]
 repeat' ((with_reducible refine q9 (hl.mono z.inc) dB ?_) <;> simp only [aa,seval,fP])
 obtain ⟨I1,aX⟩:∃ I:Nat->Env->Heap->Prop,I=(λn e h'=>∃ (i:Nat) (w:ai) (A:Nat) (h1:Heap),h'=h1.lay [] h1.low/\Ext h h1/\(n=l.length - i/\i<=l.length/\Ow aC.bind h h1 134 A w (gE (l.take i) m))/\∃ J:Nat->ai,e=(v::u::jr J 2 3 (w::jr J 6 2 (v::.int .i64 l.length::.int .i64 i::jr J 11 15 ([]))))):=⟨_,rfl⟩
 refine dN I1 _ (by rw [aX];exact ⟨0,.slice none 0 0,h.size,_,rfl,z,⟨rfl,by omega,Ow.nil (aR _)⟩,bo⟩) ?_
 intro n e h' aP
 rw [aX] at aP
 obtain ⟨i,w,A,bU,rfl,z,hinv,J,rfl⟩:=aP
 obtain ⟨rfl,hi,ho⟩:=hinv
 have hw:=eE i (by omega)
 have hz:=z.size
 simp only [aa,seval,fP]
 refine bS (λaT=>?_) (λaT=>?_)
 rotate_left
 .repeat' ( simp only [aa,seval,fP])
  rw [gb (by omega)] at ho
  exact hk _ _ z.av ((ho.sl (by decide)).lay _ _)
 obtain ⟨r,hr,cw⟩:=gC (l:=l) (i:=i) aT
 have ey:=ho.lt
 simp only [aa,seval,fP]
 repeat' ((first|with_reducible refine yX (hl.mono z.inc) dB mT (by omega) hr (λp hp=>?_)|with_reducible refine Lg hp Im mT ?_) <;> simp only [aa,seval,fP,iy,gS,iI,Am.one,im,gd,BF,au.val,au.cells])
 refine (ez (by simp only [fP])) z.av ?_
 repeat' (simp only [aa,seval,fP])
 refine FW m u r.term _ ((hm.mono z.inc).lay _ _) G1 _ (λh' x=>?_)
 (((with_reducible refine ix ?_ ?_ ?_);(· exact (by (simp only [iY]);have:=z.size;omega));(· exact x));replace z:=z.ao x;replace ho:=ho.over x;rw [aw h'])
 simp only [aa,seval,fP,zr9,Qf,P7]
 refine ni (by have:=z.size;omega) (by omega) ?_
 simp only [cm,seval,fP,jF,Gu]
 have hlen:(gE (l.take i) m).length<=1000:=by unfold gE;rw [gw,gR];omega
 have sH:(h'.lay [aZ.row (au.cells ⟨r.var,cu m r.term⟩) 134 false] (h'.size+1)).size=h'.size+1:=by rw [bh];rfl
 have xj:=z.size
 obtain ⟨ji,mH⟩:=Bo (A:=A) (r:=aC.bind) (c:=1) (y:=⟨r.var,cu m r.term⟩) (by decide) (show (h'.lay [aZ.row (au.cells ⟨r.var,cu m r.term⟩) 134 false] (h'.size+1)).get (h'.size+0)=some (.row (au.cells ⟨r.var,cu m r.term⟩) 134 false) by rw [jG];rfl) rfl
 obtain ⟨w',B0,Zu,e1,e2,e3,e4,e5⟩:=sb (t:=95) dB Be rfl (by decide) (by rw [sH];omega) (ho.mono (bN.lay _ _ _)) ji mH (by omega) (by omega)
 have wz:=ho.fresh
 rw [e1]
 simp only [syms,seval]
 refine iL (A:=A) (by kernel_rfl) (by rw [bh];omega) (by omega) (by simpa only [bY,bh,bC,ek,db,iA] using e3) ?_
 replace z:=(z.jC [aZ.row (au.cells ⟨r.var,cu m r.term⟩) 134 false] (h'.size+1) (by omega)).step e3 wz
 have ic:gE (l.take (i+1)) m=gE (l.take i) m++[⟨r.var,cu m r.term⟩]:=by rw [lr,cw];unfold gE;rw [sf];rfl
 rw [<- ic] at e2
 clear ho
 rw [aw B0]
 repeat' (first|simp only [aa,seval,fP]|((with_reducible refine ⟨z.cU.lay _ _,?_⟩);(intro _ h' zz x _);(simp only [bY,bC] at x);replace e2:=e2.over x;(replace z:=zz);(clear zz);rw [aw h']))
 rw [hw]
 (rw [aX];with_reducible refine cF (m:=_) ?_ ⟨i+1,_,_,_,rfl,z,⟨rfl,by omega,e2⟩,bo⟩;omega)
theorem zoe (s xs:aU) (xv:Bool):lL aH 134 [(0,.string s),(1,.agg ⟨[.bool xv,.string xs]⟩)]=some (.agg ⟨[.string s,.bool xv,.string xs]⟩):=by kernel_rfl
theorem Q0 {e:Int} {K:aJ} (h1:e≠0->K (.bool true) h) (h2:e=0->K (.bool false) h):uG (e != 0) h K:=by
 refine ⟨λhh=>h1 (by simpa using hh),λhh=>h2 (by simpa using hh)⟩
theorem zy9 {v:ai} (f:Sl aC.bind h v l):∃ b:Bool,cA prog aH .eql 95 v (.slice none 0 0)=some (.bool b)/\(b=true->l=[]):=by
 rcases f with ⟨rfl,rfl⟩|⟨A,o,c,row,u,ro,rfl,_⟩
 .exact ⟨true,by kernel_rfl,λ_=>rfl⟩
 .exact ⟨false,by kernel_rfl,nofun⟩
theorem zxd (l:List au) (v:ai) (h:Heap) (hl:Sl aC.bind h v l) (hs:l.length<=1000) (K:aJ)
 (hk:∀ h' w,Ext h h'->Sl aC.bind h' w l->K w h'):Ok prog aH ov 125 [v] h K:=by
 rw [aw h]
 obtain ⟨b,hb,rN⟩:=zy9 hl
 refine Ok.aA 7 (bH IL) ?_
 simp only [aa,seval,zy,hb]
 cases b
 .simp only [aa,seval,zy,jF,Gu]
  obtain ⟨news,hs,j3⟩:=xR (A:=h.size+1) (r:=aC.bind) (by decide) (hl.lay [.row [] 134 false] h.low) (λcs y hr=>hr)
  have f:Ow aC.bind h (h.lay [.row [] 134 false] h.low) 134 (h.size+1) (.slice (some ⟨h.size+0,0,none⟩) 0 0) [] :=
   .inl ⟨by omega,rfl,.inr ⟨h.size+0,0,rfl,by omega,by rw [bh];simp,[],134,false,by rw [jG];rfl⟩⟩
  obtain ⟨w,h',A',e1,e2,e3,e4,e5⟩:=sb (t:=95) dB Be rfl (by decide) (by rw [bh];omega) f hs j3 (by simp only [db];omega) (by simp only [db];omega)
  rw [e1]
  simp only [aa,seval,zy]
  exact hk _ _ ((Ext.refl h).bV e3 (by omega) (by omega)) (by have:=e2.sl (by decide);simpa using this)
 .simp only [aa,seval,zy]
  rw [rN rfl] at hk
  exact hk _ _ ((Ext.refl h).jC _ _ (by omega)) Sl.nil
theorem zta {b:au} {u:TypeId} {ro:Bool}:Sl aC.bind (h.lay [.row b.cells u ro] w) (.slice (some ⟨h.size+0,0,none⟩) 1 1) [b]:=by
 refine .inr ⟨h.size+0,0,1,b.cells,u,ro,rfl,(by show 1<=maxLen;decide),.inl ⟨by decide,aR _⟩,by rw [bh];simp,by rw [jG];rfl,λi x hx=>?_⟩
 cases i with
 |zero =>
  simp at hx
  subst hx
  exact ⟨_,rfl,rfl⟩
 |succ i=>simp at hx
theorem zBH (l:List au) (v:ai) (s:aU) (t:ay) (h:Heap) (hl:Sl aC.bind h v l) (hs:l.length<=900) (K:aJ)
 (hk:∀ h' w e,Ext h h'->(jW l s t=none->e≠0)->(∀ m,jW l s t=some m->e=0/\Sl aC.bind h' w m)->K (.tuple #[w,.int .i64 e]) h'):Ok prog aH ov 93 [v,.string s,t.val] h K:=by
 rw [aw h]
 have z:=Ext.refl h
 rcases hg:bE l s with ⟨⟨tv,ts⟩,pb⟩
 obtain ⟨x,hx⟩:∃ x,x=cu l t:=⟨_,rfl⟩
 rcases x with ⟨xv,xs⟩
 unfold jW at hk
 rw [hg,<- hx] at hk
 refine Ok.aA 41 (bH Rf) ?_
 simp only [aa,seval,jA,ay.val,ay.cells]
 repeat' ((first|((with_reducible first|apply bS|apply qL|apply qM|apply Bv|apply F4) <;> intro _)|((with_reducible refine ⟨z.cU.lay _ _,?_⟩);(intro _ h' zz x _);(first|simp only [bY,bC] at x|skip);(replace z:=zz);(clear zz);rw [aw h'])) <;> simp only [aa,seval,jA])
 refine HM l _ _ (hl.lay _ _) (by omega) _ (λh' e x he=>?_)
 have q0:=Holds.top (i:=0) x rfl
 (replace z:=z.ao x;rw [aw h'])
 simp only [aa,seval,jA]
 refine Q0 ?_ ?_
 .intro aM
  simp only [aa,seval,jA]
  have hZ:¬ eG l:=λhh=>aM (he.2 hh)
  rw [aD hZ] at hk
  exact hk _ _ _ z.av (λ_=>by decide) (λm hm=>by cases hm)
 intro wq
 have hC:=he.1 wq
 rw [az (by simpa using hC)] at hk
 repeat' (simp only [aa,seval,jA])
 refine F8 l _ s _ ((hl.mono z.inc).lay _ _) (by omega) _ (λh' x=>?_)
 rw [hg]
 (replace z:=z.ao x;replace q0:=q0.over x;rw [aw h'])
 simp only [aa,seval,jA,ay.val,ay.cells]
 repeat' ((first|((with_reducible first|apply bS|apply qL|apply qM|apply Bv|apply F4) <;> intro _)|((with_reducible refine ⟨z.cU.lay _ _,?_⟩);(intro _ h' zz x _);(first|simp only [bY,bC] at x|skip);(first|replace q0:=q0.over x|skip);(replace z:=zz);(clear zz);rw [aw h'])) <;> simp only [aa,seval,jA,HV,iy,gS,iI,Am.one,Gv,Bool.true_and,im,gd,ze,LB,Ha,WG,gN,lI,rV,Fp,BF,q0.lay,ay.val,ay.cells])
 refine tj (λEE=>?_) (λEE=>?_)
 all_goals
  subst EE
  repeat' (simp only [aa,seval,jA,iy,gS,iI,Am.one,im,gd,gN,q0.lay])
  refine FW l v t _ ((hl.mono z.inc).lay _ _) (by omega) _ (λh' x=>?_)
  rw [<- hx]
  (replace z:=z.ao x;replace q0:=q0.over x;rw [aw h'])
  repeat' (first|simp only [aa,seval,jA,iy,gS,iI,Am.one,im,gd,BF,q0.lay,ay.val,ay.cells,zoe]|((with_reducible apply bS) <;> intro _))
 all_goals try
  ((with_reducible refine hk _ _ _ z.av ?_ ?_) <;> (clear hk;intros;first|decide|(exfalso;simp_all)))
 have h1:¬ (s=⟨#[]⟩\/t.s=⟨#[]⟩):=by simp [*]
 rw [az h1,az (by simp)] at hk
 refine Za ⟨s,⟨xv,xs⟩⟩ _ _ (λh' x=>?_)
 have q1:=Holds.top (i:=0) x rfl
 (replace z:=z.ao x;replace q0:=q0.over x;rw [aw h'])
 cases wP:mL ⟨s,⟨xv,xs⟩⟩
 rotate_left
 .repeat' ( simp only [aa,seval,jA])
  rw [aD wP] at hk
  exact hk _ _ _ z.av (λ_=>by decide) (λm hm=>by cases hm)
 rw [az (by rw [wP];decide)] at hk
 repeat' (simp only [aa,seval,jA])
 refine (ez (by simp only [jA])) z.av ?_
 repeat' (simp only [aa,seval,jA,q1.lay])
 refine ni (by have:=z.size;omega) (by omega) ?_
 simp only [aa,seval,jA]
 refine zsM l [⟨s,⟨xv,xs⟩⟩] v _ _ ((hl.mono z.inc).lay _ _) (zta (b:=⟨s,⟨xv,xs⟩⟩)) (by omega) (by simp) _ (λh' u x hu=>?_)
 (((with_reducible refine ix ?_ ?_ ?_);(· exact (by (simp only [iY]);have:=z.size;omega));(· exact x));replace z:=z.ao x;replace q1:=q1.over x;rw [aw h'])
 repeat' (simp only [aa,seval,jA,q1.lay])
 refine zBT (gE l [⟨s,⟨xv,xs⟩⟩]) u ⟨s,⟨xv,xs⟩⟩ _ (hu.lay _ _) (by unfold gE;rw [gw];omega) (PT hC.1) _ (λh' w x hw=>?_)
 (((with_reducible refine ix ?_ ?_ ?_);(· exact (by (simp only [iY]);have:=z.size;omega));(· exact x));replace z:=z.ao x;replace q1:=q1.over x;rw [aw h'])
 repeat' (first|simp only [aa,seval,jA]|((with_reducible refine ⟨z.cU.lay _ _,?_⟩);(intro _ h' zz x _);(simp only [bY,bC] at x);replace hw:=hw.over x;(replace z:=zz);(clear zz);rw [aw h']))
 exact hk _ _ _ z.av (λhm=>by cases hm) (λm hm=>by cases hm;exact ⟨rfl,hw.lay _ _⟩)
theorem zpW (l:List au) (b:au):(kE l b).length=l.length+1:=by
 unfold kE
 rw [cE,ek,<- pB,<- cE,Xz]
theorem zib {m:List au} {s:aU} {t:ay} (h:jW l s t=some m):m.length=l.length+1:=by
 unfold jW at h
 split at h
 .cases h
 split at h
 .cases h
 split at h
 .cases h
 split at h
 .cases h
 .cases h
  rw [zpW]
  unfold gE
  rw [gw]
theorem zud (a:ae):gB prog (do let y <- Instr.index 26 (.agg ⟨a.dY⟩) (.int .i64 0);pure (Next.value y))=some (.value (a.arg 0).val):=by kernel_rfl
theorem zue (a:ae):gB prog (do let y <- Instr.index 26 (.agg ⟨a.dY⟩) (.int .i64 1);pure (Next.value y))=some (.value (a.arg 1).val):=by kernel_rfl
theorem zuf (a:ae):gB prog (do let y <- Instr.index 26 (.agg ⟨a.dY⟩) (.int .i64 2);pure (Next.value y))=some (.value (a.arg 2).val):=by kernel_rfl
theorem zug (a:ae):gB prog (do let y <- Instr.index 26 (.agg ⟨a.dY⟩) (.int .i64 3);pure (Next.value y))=some (.value (a.arg 3).val):=by kernel_rfl
theorem zwO (a:ae) (k:Nat) (h:k < 4):gB prog (do let y <- Instr.index 26 (.agg ⟨a.dY⟩) (.int .i64 k);pure (Next.value y))=some (.value (a.arg k).val):=by
 have:k=0\/k=1\/k=2\/k=3:=by omega
 rcases this with rfl|rfl|rfl|rfl
 .exact zud a
 .exact zue a
 .exact zuf a
 .exact zug a
theorem zoQ {d:Option Tmp} {ty:TypeId} {pos:String} {af:Array Edge} {g:Option (Nat × Bool)} {x i:Operand} {K:aJ} {a:ae} {k:Nat} (Ch:k < 4) (hx:bz e x=.agg ⟨a.dY⟩) (hi:bz e i=.int .i64 k)
 (hK:K (a.arg k).val h):dv (gP prog e ⟨d,.index 26 x i,ty,pos,af,g⟩ h) K:=by
 have:gP prog e ⟨d,.index 26 x i,ty,pos,af,g⟩ h=some ((a.arg k).val,h):=by
  unfold gP
  have hp:plain (.agg ⟨a.dY⟩)=true:=rfl
  have Au:plain (.int .i64 (k:Int))=true:=rfl
  rw [aD (by simp [Op.operands,hx,hi,hp,Au])]
  have:gB prog (execOp (bz e) ⟨d,.index 26 x i,ty,pos,af,g⟩)=some (.value (a.arg k).val):=by
   simp only [execOp,hx,hi]
   exact zwO a k Ch
  rw [this]
  rfl
 rw [this]
 exact hK
theorem zzc (a b:ae) (h:Heap) (K:aJ)
 (hk:∀ h',Ext h h'->K (.bool (mP a b)) h'):Ok prog aH ov 124 [a.val,b.val] h K:=by
 rw [aw h]
 have z:=Ext.refl h
 refine Ok.aA 32 (bH IK) ?_
 simp only [aa,seval,Jp,ae.val,ae.cells]
 repeat' (((with_reducible first|apply bS|apply qL) <;> intro _) <;> simp only [aa,seval,Jp])
 all_goals first
  |(have e:mP a b=true:=by
     unfold mP
     simp only [dK,jm]
     refine ⟨?_,?_,?_,?_,?_⟩ <;> first|assumption|omega
    rw [e] at hk
    exact hk _ z.av)
  |(have e:mP a b=false:=by
     cases he:mP a b
     .rfl
     .exfalso
      unfold mP at he
      simp only [dK,jm] at he
      obtain ⟨e1,e2,e3,e4,e5⟩:=he
      first|contradiction|omega
    rw [e] at hk
    exact hk _ z.av)
theorem zik {p g:ae} {k:Nat} (h:r8 p g k l=none) (En:k<=m):r8 p g m l=none:=by
 induction m with
 |zero =>
  have:k=0:=by omega
  subst this
  exact h
 |succ m ih =>
  by_cases he:k=m+1
  .subst he;exact h
  .unfold r8
   rw [ih (by omega)]
   rfl
theorem Ho {I:Nat->Env->Heap->Prop} {Q:Ex->Env->Heap->Prop} {x:Ex} {h0 h1:Heap} {bs:List aZ} (z:Ext h0 (h1.lay bs w)) (hk:∀ H,Ext h0 H->(∀ A b,Holds h1 A b->Holds H A b)->bN h1 H->Dl I m Q x e (H.lay [] H.low)):Dl I m Q x e (h1.lay bs w):=by
 have:=hk _ z (λA b q=>q.on bs w) (bN.lay _ _ _)
 rwa [<- aw] at this
theorem Od (a:ae):a.cells[2]? = some (.int .i64 a.n):=rfl
theorem zou (a:ae):cut a.cells 3 8=some a.dY:=rfl
theorem NC (a:ae) (k:Nat) (hk:k < 4):cut a.cells (3+k*2) 2=some (a.arg k).cells:=by
 have:k=0\/k=1\/k=2\/k=3:=by omega
 rcases this with rfl|rfl|rfl|rfl <;> rfl
theorem zC2 (l:List au) (v:ai) (p g:ae) (h:Heap) (hl:Sl aC.bind h v l) (hs:l.length<=890) (K:aJ)
 (hk:∀ h' w b,Ext h h'->(bG l p g=none->b=false)->(∀ m,bG l p g=some m->b=true/\Sl aC.bind h' w m)->K (.tuple #[w,.bool b]) h'):Ok prog aH ov 97 [v,p.val,g.val] h K:=by
 rw [aw h]
 have z:=Ext.refl h
 refine Ok.aA 118 (bH N97) ?_
 repeat' (simp only [aa,seval,lB,gV])
 refine HM l _ _ ((hl.mono z.inc).lay _ _) (by omega) _ (λh' e x he=>?_)
 have q0:=Holds.top (i:=0) x rfl
 have q1:=Holds.top (i:=1) x rfl
 (replace z:=z.ao x;rw [aw h'])
 simp only [aa,seval,lB]
 refine Q0 ?_ ?_
 .intro aM
  repeat' (simp only [aa,seval,lB])
  have hn:bG l p g=none:=by unfold bG;rw [aD (.inl (λhh=>aM (he.2 hh)))]
  exact hk _ _ _ z.av (λ_=>rfl) (λm hm=>by rw [hn] at hm;cases hm)
 intro wq
 have hC:=he.1 wq
 simp only [aa,seval,lB,q0.lay,q1.lay,↓fe,dU,dq]
 refine zzc p g _ _ (λh' x=>?_)
 (replace z:=z.ao x;replace q0:=q0.over x;replace q1:=q1.over x;rw [aw h'])
 cases pH:mP p g
 .repeat' (first|simp only [aa,seval,lB]|((with_reducible apply cf);(· rfl)))
  have hn:bG l p g=none:=by unfold bG;rw [aD (.inr (.inl pH))]
  exact hk _ _ _ z.av (λ_=>rfl) (λm hm=>by rw [hn] at hm;cases hm)
 repeat' (first|simp only [aa,seval,lB,q1.lay,↓fe,dU,dq]|((with_reducible apply cf);(· rfl)))
 refine zo9 g _ _ (λh' x=>?_)
 (replace z:=z.ao x;replace q0:=q0.over x;replace q1:=q1.over x;rw [aw h'])
 cases OY:g.ground
 .repeat' (first|simp only [aa,seval,lB]|((with_reducible apply cf);(· rfl)))
  have hn:bG l p g=none:=by unfold bG;rw [aD (.inr (.inr OY))]
  exact hk _ _ _ z.av (λ_=>rfl) (λm hm=>by rw [hn] at hm;cases hm)
 repeat' (first|simp only [aa,seval,lB,q0.lay,↓zou]|((with_reducible apply cf);(· rfl)))
 have hp4:0<=p.n/\p.n<=4:=by
  unfold mP at pH
  simp only [dK,jm] at pH
  exact pH.2.2.2
 obtain ⟨I1,aX⟩:∃ I:Nat->Env->Heap->Prop,I=(λn e h'=>∃ (k:Nat) (h1:Heap),h'=h1.lay [] h1.low/\Ext h h1/\(n=4 - k/\k<=4/\(∀ i,i < k->(i:Int) < p.n->rA l (p.arg i)=false)/\Holds h1 (h.size+0) (.row p.cells 28 false)/\Holds h1 (h.size+1) (.row g.cells 28 false))/\∃ J:Nat->ai,e=(v::jr J 1 3 (.pointer (some ⟨h.size+0,0,none⟩)::.pointer (some ⟨h.size+1,0,none⟩)::jr J 6 30 (.agg ⟨p.dY⟩::.int .i64 k::jr J 38 83 ([]))))):=⟨_,rfl⟩
 refine dN I1 _ (by rw [aX];exact ⟨0,_,rfl,z,⟨rfl,by omega,by intro i hi;omega,q0,q1⟩,bo⟩) ?_
 intro n e h' aP
 rw [aX] at aP
 obtain ⟨k,bU,rfl,z,hinv,J,rfl⟩:=aP
 clear q0 q1
 obtain ⟨rfl,Ch,J6,q0,q1⟩:=hinv
 have hw:=eE k (by omega)
 simp only [aa,seval,lB]
 refine bS (λaT=>?_) (λaT=>?_)
 rotate_left
 .repeat' ( simp only [aa,seval,lB])
  have J7:¬ ∃ i:Nat,i < 4/\(i:Int) < p.n/\rA l (p.arg i)=true:=by
   rintro ⟨i,g1,g2,g3⟩
   rw [J6 i (by omega) g2] at g3
   cases g3
  have zV:bG l p g=r8 p g p.n.toNat l:=by
   unfold bG
   rw [az (by simp [hC,pH,OY]),az J7]
  refine zxd l v _ ((hl.mono z.inc).lay _ _) (by omega) _ (λh' w x pK=>?_)
  (replace z:=z.ao x;replace q0:=q0.over x;replace q1:=q1.over x;rw [aw h'])
  repeat' (simp only [aa,seval,lB,q0.lay,↓zou])
  obtain ⟨I2,eu⟩:∃ I:Nat->Env->Heap->Prop,I=(λn e h'=>∃ (k:Nat) (out:List au) (w:ai) (h1:Heap),h'=h1.lay [] h1.low/\Ext h h1/\(n=4 - k/\k<=4/\k<=p.n.toNat/\r8 p g k l=some out/\Sl aC.bind h1 w out/\out.length<=l.length+k/\Holds h1 (h.size+0) (.row p.cells 28 false)/\Holds h1 (h.size+1) (.row g.cells 28 false))/\∃ J:Nat->ai,e=(jr J 0 4 (.pointer (some ⟨h.size+0,0,none⟩)::.pointer (some ⟨h.size+1,0,none⟩)::jr J 6 6 (w::.bool true::jr J 14 58 (.agg ⟨p.dY⟩::.int .i64 k::jr J 74 47 ([])))))):=⟨_,rfl⟩
  refine dN I2 _ (by rw [eu];exact ⟨0,l,w,_,rfl,z,⟨rfl,by omega,by omega,rfl,pK,by omega,q0,q1⟩,bo⟩) ?_
  intro n e h' aP
  rw [eu] at aP
  obtain ⟨k,out,w,dc,rfl,z,hinv,J,rfl⟩:=aP
  clear q0 q1
  obtain ⟨rfl,Ch,Kr,Az,gL,hlen,q0,q1⟩:=hinv
  have hw:=eE k (by omega)
  simp only [aa,seval,lB]
  refine bS (λaT=>?_) (λaT=>?_)
  rotate_left
  .repeat' (first|simp only [aa,seval,lB]|((with_reducible apply cf);(· rfl)))
   have nZ:p.n.toNat=k:=by omega
   rw [zV,nZ,Az] at hk
   exact hk _ _ _ z.av (λhm=>by cases hm) (λm hm=>by cases hm;exact ⟨rfl,gL.lay _ _⟩)
  rcases hg:bE out (p.arg k).s with ⟨⟨tv,ts⟩,pb⟩
  have tT:(0:Int)<=(k:Int)/\(k:Int) < 4:=by omega
  have jq:=NC g k (by omega)
  have DZ:∀ (Q:Ex->Env->Heap->Prop) (e:Env) (h:Heap),xS 3 Q (.exit 2) e h=Q (.exit 2) e h:=λQ e h=>zkP 3 2 Q e h rfl
  simp only [aa,seval,lB]
  repeat' ((first|((with_reducible apply qL) <;> intro _)|(with_reducible refine zoQ (by omega) rfl rfl ?_)|((with_reducible apply cf);(· rfl))) <;> simp only [aa,seval,lB,iy,gS,iI,Am.one,im,gd,ze,gN,q0.lay,q1.lay,Od,ay.val,ay.cells,tT,↓jq,DZ])
  .have nZ:p.n.toNat=k:=by omega
   rw [zV,nZ,Az] at hk
   exact hk _ _ _ z.av (λhm=>by cases hm) (λm hm=>by cases hm;exact ⟨rfl,gL.lay _ _⟩)
  have od:r8 p g (k+1) l=tb out (p.arg k) (g.arg k):=by
   conv=>lhs;unfold r8
   rw [Az]
   rfl
  refine F8 out w (p.arg k).s _ (gL.lay _ _) (by omega) _ (λh' x=>?_)
  rw [hg]
  have q2:=Holds.top (i:=0) x rfl
  have q3:=Holds.top (i:=1) x rfl
  replace gL:=gL.over x
  (replace z:=z.ao x;replace q0:=q0.over x;replace q1:=q1.over x;rw [aw h'])
  simp only [aa,seval,lB,ay.val,ay.cells]
  repeat' ((first|((with_reducible apply bS) <;> intro _)|with_reducible refine tj (λ_=>?_) (λ_=>?_)|((with_reducible apply cf);(· rfl))) <;> simp only [aa,seval,lB,iy,gS,iI,Am.one,im,gd,gN,q2.lay,q3.lay,zlh,DZ])
  all_goals try first
   |((with_reducible refine hk _ _ _ z.av (λ_=>rfl) (λm hm=>?_))
     have wR:tb out (p.arg k) (g.arg k)=none:=by
      unfold tb
      rw [hg]
      first
       |rw [aD (by assumption),az (by assumption)]
       |rw [az (by simp [*]),aD (by assumption),az (by assumption)]
     have hn:bG l p g=none:=by
      rw [zV]
      exact zik (k:=k+1) (by rw [od,wR]) (by omega)
     rw [hn] at hm
     cases hm)
   |(have wR:tb out (p.arg k) (g.arg k)=some out:=by
      unfold tb
      rw [hg]
      first
       |rw [aD (by assumption),aD (by assumption)]
       |rw [az (by simp [*]),aD (by assumption),aD (by assumption)]
     rw [hw]
     refine Ho z.av (λH z hO hI=>?_)
     (rw [eu];with_reducible refine cF (m:=_) ?_ ⟨k+1,out,w,_,rfl,z,⟨rfl,by omega,by omega,by rw [od,wR],gL.mono hI,by omega,hO _ _ q0,hO _ _ q1⟩,bo⟩;omega))
  have wR:tb out (p.arg k) (g.arg k)=jW out (p.arg k).s (g.arg k):=by
   unfold tb
   rw [hg,az (by simp [*]),az (by simp [*])]
  refine zBH out w (p.arg k).s (g.arg k) _ (gL.lay _ _) (by omega) _ (λh' w2 e x nT tI=>?_)
  (replace z:=z.ao x;replace q0:=q0.over x;replace q1:=q1.over x;rw [aw h'])
  have cX:∀ (h:Heap) (K:aJ),aK (some w2) h K=K w2 h:=λ_ _=>rfl
  by_cases zT:e=0
  .have D0:(e == 0)=true:=by simpa using zT
   simp only [aa,seval,lB,cX,D0]
   repeat' (((with_reducible apply cf);(· rfl)) <;> simp only [aa,seval,lB])
   cases gz:jW out (p.arg k).s (g.arg k) with
   |none=>exact absurd zT (nT gz)
   |some m =>
    have ia:=(tI m gz).2
    have yu:=zib gz
    rw [hw]
    (rw [eu];with_reducible refine cF (m:=_) ?_ ⟨k+1,m,w2,_,rfl,z,⟨rfl,by omega,by omega,by rw [od,wR,gz],ia,by omega,q0,q1⟩,bo⟩;omega)
  .have D0:(e == 0)=false:=by simpa using zT
   simp only [aa,seval,lB,cX,D0]
   repeat' (((with_reducible apply cf);(· rfl)) <;> simp only [aa,seval,lB,DZ])
   have hn:bG l p g=none:=by
    rw [zV]
    refine zik (k:=k+1) ?_ (by omega)
    rw [od,wR]
    cases gz:jW out (p.arg k).s (g.arg k) with
    |none=>rfl
    |some m=>exact absurd (tI m gz).1 zT
   exact hk _ _ _ z.av (λ_=>rfl) (λm hm=>by rw [hn] at hm;cases hm)
 rcases hg:bE l (p.arg k).s with ⟨⟨tv,ts⟩,pb⟩
 simp only [aa,seval,lB]
 repeat' ((with_reducible refine zoQ (by omega) rfl rfl ?_) <;> simp only [aa,seval,lB,iy,gS,iI,Am.one,im,gd,gN,ay.val,ay.cells])
 refine F8 l v (p.arg k).s _ (hl.mono z.av.inc) (by omega) _ (λh' x=>?_)
 rw [hg]
 have q2:=Holds.top (i:=0) x rfl
 (replace z:=z.ao x;replace q0:=q0.over x;replace q1:=q1.over x;rw [aw h'])
 simp only [aa,seval,lB,ay.val,ay.cells]
 repeat' ((first|((with_reducible apply bS) <;> intro _)|with_reducible refine tj (λ_=>?_) (λ_=>?_)) <;> simp only [aa,seval,lB,iy,gS,iI,Am.one,im,gd,gN,q0.lay,q2.lay,Od])
 all_goals first
  |((with_reducible refine hk _ _ _ z.av (λ_=>rfl) (λm hm=>?_))
    have hb:rA l (p.arg k)=true:=by (unfold rA;rw [hg];simp [*])
    have hn:bG l p g=none:=by
     unfold bG
     split
     .rfl
     .rw [aD ⟨k,by omega,by omega,hb⟩]
    rw [hn] at hm
    cases hm)
  |(have qp:∀ i,i < k+1->(i:Int) < p.n->rA l (p.arg i)=false:=by
     intro i hi aP
     by_cases tR:i=k
     .subst tR
      first|(exfalso;omega)|(unfold rA;rw [hg];simp [*])
     .exact J6 i (by omega) aP
    rw [hw]
    refine Ho z.av (λH z hO _=>?_)
    (rw [aX];with_reducible refine cF (m:=_) ?_ ⟨k+1,_,rfl,z,⟨rfl,by omega,qp,hO _ _ q0,hO _ _ q1⟩,bo⟩;omega))
end Go.Proofs.YtnkmeidmdaidhaaGreatDoor
