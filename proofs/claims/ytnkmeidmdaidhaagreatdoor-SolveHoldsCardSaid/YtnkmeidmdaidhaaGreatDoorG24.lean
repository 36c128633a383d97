/- Walks: bindings: may they be Written out by fill2.py. No condition. -/
import Derived.Test.YtnkmeidmdaidhaaGreatDoorG23
set_option linter.unusedSimpArgs false
set_option linter.unusedVariables false
set_option maxRecDepth 100000
set_option maxHeartbeats 0
namespace Go.Proofs.YtnkmeidmdaidhaaGreatDoor
open Go.Am Tryz
variable {m w:Nat} {e:Env} {h:Heap} {l:List av}
theorem zv5 {I:Nat->Env->Heap->Prop} {Q:Ex->Env->Heap->Prop} {x:Ex} {h0 h1:Heap} {bs:List aZ} (z:Ext h0 (h1.lay bs w)) (hk:∀ H,Ext h0 H->Ck I m Q x e (H.lay [] H.low)):Ck I m Q x e (h1.lay bs w):=by
 have:=hk _ z
 rwa [<- az] at this
theorem GC (l:List av) (v:ai) (h:Heap) (hl:Sl aG.bind h v l) (hs:l.length<=1000) (K:aO)
 (hk:∀ h' e,Ext h h'->(e=0↔dX l)->K (.int .i64 e) h'):Ok prog aJ ov 98 [v] h K:=by
 rw [az h]
 have z:=Ext.refl h
 refine Ok.aF 36 (bY Yz) ?_
 repeat' (simp only [aa,seval,xp])
 refine zr5 l _ _ (hl.lay _ _) hs _ (λh' b x hb=>?_)
 (replace z:=z.au x;rw [az h'])
 cases b
 .repeat' (first|simp only [aa,seval,xp]|((with_reducible apply cK);(· rfl)))
  refine hk _ _ ?_ ?_
  .exact z.aw
  .exact ⟨λhh=>absurd hh (by decide),λhh=>absurd (hb.2 hh.1) (by simp)⟩
 have hR:=hb.1 rfl
 simp only [aa,seval,xp]
 repeat' ((first|with_reducible refine rF (hl.mono z.inc) dx ?_|((with_reducible apply cK);(· rfl))) <;> simp only [aa,seval,xp])
 obtain ⟨I1,bo⟩:∃ I:Nat->Env->Heap->Prop,I=(λn e h'=>∃ (i:Nat) (h1:Heap),h'=h1.lay [] h1.low/\Ext h h1/\(n=l.length - i/\i<=l.length/\∀ b∈l.take i,b.term.s≠⟨#[]⟩/\¬ (b.term.v=true/\(bx l b.term.s).2=true))/\∃ J:Nat->ai,e=(v::jr J 1 9 (v::.int .i64 l.length::.int .i64 i::jr J 13 24 ([])))):=⟨_,rfl⟩
 refine fh I1 _ (by rw [bo];exact ⟨0,_,rfl,z,⟨rfl,by omega,by simp⟩,bO⟩) ?_
 intro n e h' aU
 rw [bo] at aU
 obtain ⟨i,cF,rfl,z,hinv,J,rfl⟩:=aU
 obtain ⟨rfl,hi,aE⟩:=hinv
 have hw:=gE i (by omega)
 simp only [aa,seval,xp]
 refine cm (λbc=>?_) (λbc=>?_)
 rotate_left
 .simp only [aa,seval,xp]
  rw [iR (by omega)] at aE
  exact hk _ _ z.aw ⟨λ_=>⟨hR,aE⟩,λ_=>rfl⟩
 obtain ⟨r,hr,cI⟩:=i4 (l:=l) (i:=i) bc
 have eL:=ek cI
 rcases hg:bx l r.term.s with ⟨⟨tv,ts⟩,pb⟩
 simp only [aa,seval,xp]
 repeat' ((first|with_reducible refine ya (hl.mono z.inc) dx mx (by omega) hr (λp hp=>?_)|with_reducible refine JY hp G8 mx ?_) <;> simp only [aa,seval,xp,iw,iy,jt,Am.one,iv,fW,Al,av.val,av.cells])
 refine EX l _ r.term.s _ (hl.mono z.aw.inc) hs _ (λh' x=>?_)
 rw [hg]
 have q0:=ak.top (i:=0) x rfl
 (replace z:=z.au x;rw [az h'])
 simp only [aa,seval,xp,ay.val,ay.cells]
 repeat' ((first|((with_reducible apply cm) <;> intro _)|with_reducible refine sx (λ_=>?_) (λ_=>?_)) <;> simp only [aa,seval,xp,iw,iy,jt,Am.one,iv,fW,ij,q0.lay])
 all_goals first
  |((with_reducible refine hk _ _ ?_ ?_);(· exact z.aw);(· refine ⟨λhh=>absurd hh (by decide),λhh=>?_⟩;have ki:=hh.2 r eL;rw [hg] at ki;clear bo;exfalso;simp_all))
  |(rw [hw];(refine zv5 z.aw (λH z=>?_));(rw [bo];with_reducible refine dA (m:=_) ?_ ⟨i+1,_,rfl,z,⟨rfl,by omega,wY (i:=i) (P:=λb:av=>b.term.s≠⟨#[]⟩/\¬ (b.term.v=true/\(bx l b.term.s).2=true)) cI aE (by rw [hg];simp_all)⟩,bO⟩;omega))
theorem ES (l:List av) (v:ai) (t:ay) (h:Heap) (hl:Sl aG.bind h v l) (hs:l.length<=1000) (K:aO)
 (hk:∀ h',Ext h h'->K (b9 l t).val h'):Ok prog aJ ov 94 [v,t.val] h K:=by
 rw [az h]
 have z:=Ext.refl h
 rcases hg:bx l t.s with ⟨⟨tv,ts⟩,pb⟩
 unfold b9 at hk
 rw [hg] at hk
 refine Ok.aF 19 (bY Yv) ?_
 simp only [aa,seval,HY,ay.val,ay.cells]
 repeat' ((first|((with_reducible first|apply cm|apply oQ|apply su|apply Ag|apply zW) <;> intro _)) <;> simp only [aa,seval,HY,GI,iw,iy,jt,Am.one,G7,Bool.true_and,iv,fW,Ce,Ki,Bw,UQ,ij,nb,ry,Eg,Al,ay.val,ay.cells])
 refine EX l _ t.s _ (hl.lay _ _) hs _ (λh' x=>?_)
 rw [hg]
 have q0:=ak.top (i:=0) x rfl
 have q1:=ak.top (i:=1) x rfl
 (replace z:=z.au x;rw [az h'])
 have hz:=z.size
 simp only [aa,seval,HY,ay.val,ay.cells]
 repeat' ((with_reducible refine sx (λ_=>?_) (λ_=>?_)) <;> simp only [aa,seval,HY,iw,iy,jt,Am.one,iv,fW,ij,q0.lay])
 all_goals
  refine EG q1 iK rfl rfl rfl (λda pU c=>?_)
  replace z:=z.aw.step c (by omega)
  rw [az da]
  simp only [aa,seval,HY,pU.lay]
  simp only [*,and_self,and_false,false_and,gH,if_true,if_false] at hk
  exact hk _ z.aw
theorem W7 (b:av) (h:Heap) (K:aO)
 (hk:∀ h',Ext h h'->K (.bool (kZ b)) h'):Ok prog aJ ov 101 [b.val] h K:=by
 rw [az h]
 have z:=Ext.refl h
 unfold kZ at hk
 refine Ok.aF 13 (bY Hd) ?_
 simp only [aa,seval,HL,av.val,av.cells]
 repeat' ((first|((with_reducible apply cm) <;> intro _)|with_reducible refine sx (λ_=>?_) (λ_=>?_)) <;> simp only [aa,seval,HL])
 all_goals
  simp only [*,decide_true,decide_false,iv,Bool.and_false,Bool.false_and] at hk
  exact hk _ z.aw
theorem zu4 {P:Program} {T:bN} {t:TypeId} {a b:aV}:cE P T .gtr t (.string a) (.string b)=some (.bool (slt b a)):=by
 refine LD rfl ?_ rfl
 have e:slt b a = !(slt a b || (a.toList == b.toList)):=by
  rw [BG,BG,Ma]
  cases h1:slt a b
  .cases h2:slt b a
   .have:=zpg h1 h2
    simp [this]
   .have:a≠b:=λhh=>by subst hh;rw [Gr] at h2;cases h2
    simp [this]
  .cases h2:slt b a
   .rfl
   .have:=Lu h1 h2
    rw [Gr] at this
    cases this
 rw [e]
 unfold Op.stringOp slt
 simp only [BG]
 rfl
theorem zr8 (l:List av) (v:ai) (b:av) (i:Nat) (A B:Nat) (h:Heap) (hl:Sl aG.bind h v l) (hs:l.length<=1000) (hi:i < l.length) (q0:ak h A (.row [v] 95 false)) (q1:ak h B (.row b.cells 134 false)) (K:aO)
 (hk:∀ h',Ext h h'->K (.bool (match l[i]? with|some x=>slt b.var x.var|none=>false)) h'):Ok prog aJ ov 130 [.int .i64 i,.pointer (some ⟨A,0,none⟩),.pointer (some ⟨B,0,none⟩)] h K:=by
 rw [az h]
 have z:=Ext.refl h
 obtain ⟨r,hr,cI⟩:=i4 (l:=l) (i:=i) (by omega)
 rw [cI] at hk
 unfold av.cells at q1
 refine Ok.aF 10 (bY Hx) ?_
 simp only [aa,seval,CA]
 repeat' ((first|with_reducible refine ya (hl.mono z.inc) dx mx (by omega) hr (λp hp=>?_)|with_reducible refine yD hp wZ (λq hq=>?_)|with_reducible refine uB hq Ay ?_|with_reducible refine eF (by simp only [CA]) z.aw ?_|((with_reducible refine ⟨z.cS.lay _ _,?_⟩);(intro _ h' zz x _);(simp only [bS,bD] at x);(replace z:=zz);(clear zz);rw [az h'])) <;> simp only [aa,seval,CA,q0.lay,q1.lay,zu4,zsB])
 exact hk _ z.aw
theorem zrG (b:av):cut b.cells 0 3=some b.cells:=rfl
theorem zrt (b:av):Value.agg b.cells.toArray=b.val:=rfl
theorem zlg (b:av):b.val.cells.toList=b.cells:=rfl
theorem OA (b:av) (h:Heap) (K:aO):aM (some b.val) h K=K b.val h:=rfl
theorem Fl:tJ aJ 95 95=true:=by kernel_rfl
theorem Om (b:av) (z0 z1 z2:ai):pZ (λi=>some (i*3,3)) [z0,z1,z2] [(0,b.val)]=some b.cells:=rfl
theorem zAB (l:List av) (v:ai) (b:av) (h:Heap) (hl:Sl aG.bind h v l) (hs:l.length<=1000) (hR:lG l l.length) (K:aO)
 (hk:∀ h' w,Ext h h'->Sl aG.bind h' w (j9 l b)->K w h'):Ok prog aJ ov 103 [v,b.val] h K:=by
 rw [az h]
 have z:=Ext.refl h
 have hc:v.cells.toList=[v]:=OU hl
 have dg:∀ (h:Heap) (K:aO),aM (some v) h K=K v h:=λ_ _=>rfl
 refine Ok.aF 19 (bY Cr) ?_
 simp only [aa,seval,gu,hc,dg,zlg]
 repeat' ((with_reducible refine rF (hl.mono z.inc) dx ?_) <;> simp only [aa,seval,gu])
 refine Wb l.length hs _ (λi=>match l[i]? with|some x=>slt b.var x.var|none=>false) _ (λi dO K' hi xe je=>?_) _ (λda i x hi gx oC=>?_)
 .rw [Eu]
  have KX:=z.au xe
  exact zr8 l v b i _ _ dO (hl.mono KX.inc) hs hi (ak.top (i:=0) xe rfl) (ak.top (i:=1) xe rfl) K' je
 have q0:=ak.top (i:=0) x rfl
 have q1:=ak.top (i:=1) x rfl
 (replace z:=z.au x;rw [az da])
 have hw:=zsF (b:=b) hR hi gx oC
 rw [hw] at hk
 clear gx oC
 simp only [aa,seval,gu]
 refine (eF (by simp only [gu])) z.aw ?_
 simp only [aa,seval,gu,q0.lay,dg]
 repeat' ((with_reducible refine zov (hl.mono z.inc) dx mx (by omega) (λbase hb=>?_)) <;> simp only [aa,seval,gu,q1.lay,↓zrG,zrt,OA])
 simp only [aa,seval,Om]
 refine nL (by have:=z.size;omega) (by omega) ?_
 simp only [cv,seval,gu,lF,Fl]
 have hz:=z.size
 have hlen:(l.take i).length=i:=by rw [gR];omega
 have lB:Sl aG.bind (da.lay [aZ.row b.cells 134 false] (da.size+1)) (.slice base (l.take i).length (l.take i).length) (l.take i):=by rw [hlen];exact hb.lay _ _
 obtain ⟨jo,mh⟩:=GM (A:=(da.lay [aZ.row b.cells 134 false] (da.size+1)).size) (r:=aG.bind) (c:=1) (y:=b) (by decide) (show (da.lay [aZ.row b.cells 134 false] (da.size+1)).get (da.size+0)=some (.row b.cells 134 false) by rw [kE];rfl) rfl
 rw [LW (aQ _)] at mh
 obtain ⟨w1,h',e1,o1,x⟩:=zrv (h0:=h) (t:=95) dx zN rfl (by decide) (by rw [br];omega) lB jo mh (by omega) (by omega) (by omega)
 rw [hlen] at e1
 rw [e1]
 refine fP (by simp only [br,eB,dK];omega) (by simpa only [bS,br,bD,eB,dK,i5] using x) ?_
 (replace z:=z.au x;replace q0:=q0.over x;rw [az h'])
 simp only [aa,seval,gu,q0.lay,dg]
 repeat' ((with_reducible refine On (hl.mono z.inc) (by decide) dx mx (by omega) (λw2 ic=>?_)) <;> simp only [cv,seval,gu])
 simp only [cv,seval,lF,Fl]
 have AP:(da.lay [aZ.row b.cells 134 false] (da.size+1)).size=da.size+1:=by rw [br];rfl
 rw [AP] at o1
 obtain ⟨news,eE,wj⟩:=zZ (A:=da.size+1) (h:=h'.lay [] (h'.size+0)) (r:=aG.bind) (by decide) (ic.lay _ _) (λcs y hr=>hr)
 have yW:(l.take i++[b]).length=i+1:=by rw [cT,hlen];rfl
 have S7:(l.drop i).length<=1000:=by rw [mB];omega
 have JS:=z.size
 obtain ⟨w3,h3,A3,e3,o3,c3,e4,e5⟩:=xc (t:=95) dx zN rfl (by decide) (by rw [br];omega) (o1.mono (bP.lay _ _ _)) eE wj (by rw [yW];omega) (by rw [yW];omega)
 rw [e3]
 simp only [syms,seval]
 refine i3 (A:=da.size+1) (by kernel_rfl) (by rw [br];omega) (by omega) (by simpa only [bS,br,bD,eB,dK,i5] using c3) ?_
 replace z:=(z.jK [] (h'.size+0) (by omega)).step c3 (by omega)
 rw [az h3]
 repeat' (first|simp only [aa,seval,gu]|((with_reducible refine ⟨z.cS.lay _ _,?_⟩);(intro _ h' zz x _);(simp only [bS,bD] at x);replace o3:=o3.over x;(replace z:=zz);(clear zz);rw [az h']))
 exact hk _ _ z.aw (by have:=(o3.sl (by decide)).lay [] h'.low;simpa only [sE,List.singleton_append] using this)
theorem zry (s:aV) (t:ay):nP aJ 134 [(0,.string s),(1,t.val)]=some (av.val ⟨s,t⟩):=by kernel_rfl
theorem zr6 (l m:List av) (v u:ai) (h:Heap) (hl:Sl aG.bind h v l) (hm:Sl aG.bind h u m) (hs:l.length<=1000) (FQ:m.length<=1000) (K:aO)
 (hk:∀ h' w,Ext h h'->Sl aG.bind h' w (gm l m)->K w h'):Ok prog aJ ov 100 [v,u] h K:=by
 rw [az h]
 have z:=Ext.refl h
 refine Ok.aF 24 (bY Cq) ?_
 simp only [aa,seval,fI]
 repeat' ((with_reducible refine rF (hl.mono z.inc) dx ?_) <;> simp only [aa,seval,fI])
 obtain ⟨I1,bo⟩:∃ I:Nat->Env->Heap->Prop,I=(λn e h'=>∃ (i:Nat) (w:ai) (A:Nat) (h1:Heap),h'=h1.lay [] h1.low/\Ext h h1/\(n=l.length - i/\i<=l.length/\Ow aG.bind h h1 134 A w (gm (l.take i) m))/\∃ J:Nat->ai,e=(v::u::jr J 2 3 (w::jr J 6 2 (v::.int .i64 l.length::.int .i64 i::jr J 11 15 ([]))))):=⟨_,rfl⟩
 refine fh I1 _ (by rw [bo];exact ⟨0,.slice none 0 0,h.size,_,rfl,z,⟨rfl,by omega,Ow.nil (aQ _)⟩,bO⟩) ?_
 intro n e h' aU
 rw [bo] at aU
 obtain ⟨i,w,A,cF,rfl,z,hinv,J,rfl⟩:=aU
 obtain ⟨rfl,hi,ho⟩:=hinv
 have hw:=gE i (by omega)
 have hz:=z.size
 simp only [aa,seval,fI]
 refine cm (λbc=>?_) (λbc=>?_)
 rotate_left
 .repeat' ( simp only [aa,seval,fI])
  rw [iR (by omega)] at ho
  exact hk _ _ z.aw ((ho.sl (by decide)).lay _ _)
 obtain ⟨r,hr,cI⟩:=i4 (l:=l) (i:=i) bc
 have fM:=ho.lt
 simp only [aa,seval,fI]
 repeat' ((first|with_reducible refine ya (hl.mono z.inc) dx mx (by omega) hr (λp hp=>?_)|with_reducible refine JY hp G8 mx ?_) <;> simp only [aa,seval,fI,iw,iy,jt,Am.one,iv,fW,Al,av.val,av.cells])
 refine (eF (by simp only [fI])) z.aw ?_
 repeat' (simp only [aa,seval,fI])
 refine ES m u r.term _ ((hm.mono z.inc).lay _ _) FQ _ (λh' x=>?_)
 (((with_reducible refine fP ?_ ?_ ?_);(· exact (by (simp only [gh]);have:=z.size;omega));(· exact x));replace z:=z.au x;replace ho:=ho.over x;rw [az h'])
 simp only [aa,seval,fI,zry,OA,Om]
 refine nL (by have:=z.size;omega) (by omega) ?_
 simp only [cv,seval,fI,lF,Fl]
 have hlen:(gm (l.take i) m).length<=1000:=by unfold gm;rw [gq,gR];omega
 have AP:(h'.lay [aZ.row (av.cells ⟨r.var,b9 m r.term⟩) 134 false] (h'.size+1)).size=h'.size+1:=by rw [br];rfl
 have JS:=z.size
 obtain ⟨jo,mh⟩:=GM (A:=A) (r:=aG.bind) (c:=1) (y:=⟨r.var,b9 m r.term⟩) (by decide) (show (h'.lay [aZ.row (av.cells ⟨r.var,b9 m r.term⟩) 134 false] (h'.size+1)).get (h'.size+0)=some (.row (av.cells ⟨r.var,b9 m r.term⟩) 134 false) by rw [kE];rfl) rfl
 obtain ⟨w',FC,A'',e1,e2,e3,e4,e5⟩:=xc (t:=95) dx zN rfl (by decide) (by rw [AP];omega) (ho.mono (bP.lay _ _ _)) jo mh (by omega) (by omega)
 have FJ:=ho.fresh
 rw [e1]
 simp only [syms,seval]
 refine i3 (A:=A) (by kernel_rfl) (by rw [br];omega) (by omega) (by simpa only [bS,br,bD,eB,dK,i5] using e3) ?_
 replace z:=(z.jK [aZ.row (av.cells ⟨r.var,b9 m r.term⟩) 134 false] (h'.size+1) (by omega)).step e3 FJ
 have kq:gm (l.take (i+1)) m=gm (l.take i) m++[⟨r.var,b9 m r.term⟩]:=by rw [oT,cI];unfold gm;rw [sG];rfl
 rw [<- kq] at e2
 clear ho
 rw [az FC]
 repeat' (first|simp only [aa,seval,fI]|((with_reducible refine ⟨z.cS.lay _ _,?_⟩);(intro _ h' zz x _);(simp only [bS,bD] at x);replace e2:=e2.over x;(replace z:=zz);(clear zz);rw [az h']))
 rw [hw]
 (rw [bo];with_reducible refine dA (m:=_) ?_ ⟨i+1,_,_,_,rfl,z,⟨rfl,by omega,e2⟩,bO⟩;omega)
theorem znU (s xs:aV) (xv:Bool):nP aJ 134 [(0,.string s),(1,.agg ⟨[.bool xv,.string xs]⟩)]=some (.agg ⟨[.string s,.bool xv,.string xs]⟩):=by kernel_rfl
theorem Ps {e:Int} {K:aO} (h1:e≠0->K (.bool true) h) (h2:e=0->K (.bool false) h):tL (e != 0) h K:=by
 refine ⟨λhh=>h1 (by simpa using hh),λhh=>h2 (by simpa using hh)⟩
theorem zyb {v:ai} (f:Sl aG.bind h v l):∃ b:Bool,cE prog aJ .eql 95 v (.slice none 0 0)=some (.bool b)/\(b=true->l=[]):=by
 rcases f with ⟨rfl,rfl⟩|⟨A,o,c,row,u,ro,rfl,_⟩
 .exact ⟨true,by kernel_rfl,λ_=>rfl⟩
 .exact ⟨false,by kernel_rfl,nofun⟩
theorem zwf (l:List av) (v:ai) (h:Heap) (hl:Sl aG.bind h v l) (hs:l.length<=1000) (K:aO)
 (hk:∀ h' w,Ext h h'->Sl aG.bind h' w l->K w h'):Ok prog aJ ov 125 [v] h K:=by
 rw [az h]
 obtain ⟨b,hb,qZ⟩:=zyb hl
 refine Ok.aF 7 (bY Hs) ?_
 simp only [aa,seval,yw,hb]
 cases b
 .simp only [aa,seval,yw,lF,Fl]
  obtain ⟨news,hs,mX⟩:=zZ (A:=h.size+1) (r:=aG.bind) (by decide) (hl.lay [.row [] 134 false] h.low) (λcs y hr=>hr)
  have f:Ow aG.bind h (h.lay [.row [] 134 false] h.low) 134 (h.size+1) (.slice (some ⟨h.size+0,0,none⟩) 0 0) [] :=
   .inl ⟨by omega,rfl,.inr ⟨h.size+0,0,rfl,by omega,by rw [br];simp,[],134,false,by rw [kE];rfl⟩⟩
  obtain ⟨w,h',A',e1,e2,e3,e4,e5⟩:=xc (t:=95) dx zN rfl (by decide) (by rw [br];omega) f hs mX (by simp only [dK];omega) (by simp only [dK];omega)
  rw [e1]
  simp only [aa,seval,yw]
  exact hk _ _ ((Ext.refl h).cp e3 (by omega) (by omega)) (by have:=e2.sl (by decide);simpa using this)
 .simp only [aa,seval,yw]
  rw [qZ rfl] at hk
  exact hk _ _ ((Ext.refl h).jK _ _ (by omega)) Sl.nil
theorem zss {b:av} {u:TypeId} {ro:Bool}:Sl aG.bind (h.lay [.row b.cells u ro] w) (.slice (some ⟨h.size+0,0,none⟩) 1 1) [b]:=by
 refine .inr ⟨h.size+0,0,1,b.cells,u,ro,rfl,(by show 1<=maxLen;decide),.inl ⟨by decide,aQ _⟩,by rw [br];simp,by rw [kE];rfl,λi x hx=>?_⟩
 cases i with
 |zero =>
  simp at hx
  subst hx
  exact ⟨_,rfl,rfl⟩
 |succ i=>simp at hx
theorem zAr (l:List av) (v:ai) (s:aV) (t:ay) (h:Heap) (hl:Sl aG.bind h v l) (hs:l.length<=900) (K:aO)
 (hk:∀ h' w e,Ext h h'->(iN l s t=none->e≠0)->(∀ m,iN l s t=some m->e=0/\Sl aG.bind h' w m)->K (.tuple #[w,.int .i64 e]) h'):Ok prog aJ ov 93 [v,.string s,t.val] h K:=by
 rw [az h]
 have z:=Ext.refl h
 rcases hg:bx l s with ⟨⟨tv,ts⟩,pb⟩
 obtain ⟨x,hx⟩:∃ x,x=b9 l t:=⟨_,rfl⟩
 rcases x with ⟨xv,xs⟩
 unfold iN at hk
 rw [hg,<- hx] at hk
 refine Ok.aF 41 (bY PF) ?_
 simp only [aa,seval,jm,ay.val,ay.cells]
 repeat' ((first|((with_reducible first|apply cm|apply oQ|apply su|apply Ag|apply zW) <;> intro _)|((with_reducible refine ⟨z.cS.lay _ _,?_⟩);(intro _ h' zz x _);(first|simp only [bS,bD] at x|skip);(replace z:=zz);(clear zz);rw [az h'])) <;> simp only [aa,seval,jm])
 refine GC l _ _ (hl.lay _ _) (by omega) _ (λh' e x he=>?_)
 have q0:=ak.top (i:=0) x rfl
 (replace z:=z.au x;rw [az h'])
 simp only [aa,seval,jm]
 refine Ps ?_ ?_
 .intro aL
  simp only [aa,seval,jm]
  have ki:¬ dX l:=λhh=>aL (he.2 hh)
  rw [aB ki] at hk
  exact hk _ _ _ z.aw (λ_=>by decide) (λm hm=>by cases hm)
 intro vx
 have hC:=he.1 vx
 rw [aA (by simpa using hC)] at hk
 repeat' (simp only [aa,seval,jm])
 refine EX l _ s _ ((hl.mono z.inc).lay _ _) (by omega) _ (λh' x=>?_)
 rw [hg]
 (replace z:=z.au x;replace q0:=q0.over x;rw [az h'])
 simp only [aa,seval,jm,ay.val,ay.cells]
 repeat' ((first|((with_reducible first|apply cm|apply oQ|apply su|apply Ag|apply zW) <;> intro _)|((with_reducible refine ⟨z.cS.lay _ _,?_⟩);(intro _ h' zz x _);(first|simp only [bS,bD] at x|skip);(first|replace q0:=q0.over x|skip);(replace z:=zz);(clear zz);rw [az h'])) <;> simp only [aa,seval,jm,GI,iw,iy,jt,Am.one,G7,Bool.true_and,iv,fW,Ce,Ki,Bw,UQ,ij,nb,ry,Eg,Al,q0.lay,ay.val,ay.cells])
 refine sx (λDE=>?_) (λDE=>?_)
 all_goals
  subst DE
  repeat' (simp only [aa,seval,jm,iw,iy,jt,Am.one,iv,fW,ij,q0.lay])
  refine ES l v t _ ((hl.mono z.inc).lay _ _) (by omega) _ (λh' x=>?_)
  rw [<- hx]
  (replace z:=z.au x;replace q0:=q0.over x;rw [az h'])
  repeat' (first|simp only [aa,seval,jm,iw,iy,jt,Am.one,iv,fW,Al,q0.lay,ay.val,ay.cells,znU]|((with_reducible apply cm) <;> intro _))
 all_goals try
  ((with_reducible refine hk _ _ _ z.aw ?_ ?_) <;> (clear hk;intros;first|decide|(exfalso;simp_all)))
 have h1:¬ (s=⟨#[]⟩\/t.s=⟨#[]⟩):=by simp [*]
 rw [aA h1,aA (by simp)] at hk
 refine W7 ⟨s,⟨xv,xs⟩⟩ _ _ (λh' x=>?_)
 have q1:=ak.top (i:=0) x rfl
 (replace z:=z.au x;replace q0:=q0.over x;rw [az h'])
 cases vS:kZ ⟨s,⟨xv,xs⟩⟩
 rotate_left
 .repeat' ( simp only [aa,seval,jm])
  rw [aB vS] at hk
  exact hk _ _ _ z.aw (λ_=>by decide) (λm hm=>by cases hm)
 rw [aA (by rw [vS];decide)] at hk
 repeat' (simp only [aa,seval,jm])
 refine (eF (by simp only [jm])) z.aw ?_
 repeat' (simp only [aa,seval,jm,q1.lay])
 refine nL (by have:=z.size;omega) (by omega) ?_
 simp only [aa,seval,jm]
 refine zr6 l [⟨s,⟨xv,xs⟩⟩] v _ _ ((hl.mono z.inc).lay _ _) (zss (b:=⟨s,⟨xv,xs⟩⟩)) (by omega) (by simp) _ (λh' u x hu=>?_)
 (((with_reducible refine fP ?_ ?_ ?_);(· exact (by (simp only [gh]);have:=z.size;omega));(· exact x));replace z:=z.au x;replace q1:=q1.over x;rw [az h'])
 repeat' (simp only [aa,seval,jm,q1.lay])
 refine zAB (gm l [⟨s,⟨xv,xs⟩⟩]) u ⟨s,⟨xv,xs⟩⟩ _ (hu.lay _ _) (by unfold gm;rw [gq];omega) (Og hC.1) _ (λh' w x hw=>?_)
 (((with_reducible refine fP ?_ ?_ ?_);(· exact (by (simp only [gh]);have:=z.size;omega));(· exact x));replace z:=z.au x;replace q1:=q1.over x;rw [az h'])
 repeat' (first|simp only [aa,seval,jm]|((with_reducible refine ⟨z.cS.lay _ _,?_⟩);(intro _ h' zz x _);(simp only [bS,bD] at x);replace hw:=hw.over x;(replace z:=zz);(clear zz);rw [az h']))
 exact hk _ _ _ z.aw (λhm=>by cases hm) (λm hm=>by cases hm;exact ⟨rfl,hw.lay _ _⟩)
theorem zpz (l:List av) (b:av):(j9 l b).length=l.length+1:=by
 unfold j9
 rw [cT,eB,<- oU,<- cT,Vp]
theorem zh2 {m:List av} {s:aV} {t:ay} (h:iN l s t=some m):m.length=l.length+1:=by
 unfold iN at h
 split at h
 .cases h
 split at h
 .cases h
 split at h
 .cases h
 split at h
 .cases h
 .cases h
  rw [zpz]
  unfold gm
  rw [gq]
theorem ztu (a:ae):gd prog (do let y <- Instr.index 26 (.agg ⟨a.dN⟩) (.int .i64 0);pure (Next.value y))=some (.value (a.arg 0).val):=by kernel_rfl
theorem ztv (a:ae):gd prog (do let y <- Instr.index 26 (.agg ⟨a.dN⟩) (.int .i64 1);pure (Next.value y))=some (.value (a.arg 1).val):=by kernel_rfl
theorem ztw (a:ae):gd prog (do let y <- Instr.index 26 (.agg ⟨a.dN⟩) (.int .i64 2);pure (Next.value y))=some (.value (a.arg 2).val):=by kernel_rfl
theorem ztx (a:ae):gd prog (do let y <- Instr.index 26 (.agg ⟨a.dN⟩) (.int .i64 3);pure (Next.value y))=some (.value (a.arg 3).val):=by kernel_rfl
theorem zvV (a:ae) (k:Nat) (h:k < 4):gd prog (do let y <- Instr.index 26 (.agg ⟨a.dN⟩) (.int .i64 k);pure (Next.value y))=some (.value (a.arg k).val):=by
 have:k=0\/k=1\/k=2\/k=3:=by omega
 rcases this with rfl|rfl|rfl|rfl
 .exact ztu a
 .exact ztv a
 .exact ztw a
 .exact ztx a
theorem zoz {d:Option Tmp} {ty:TypeId} {pos:String} {af:Array Edge} {g:Option (Nat × Bool)} {x i:Operand} {K:aO} {a:ae} {k:Nat} (IZ:k < 4) (hx:bE e x=.agg ⟨a.dN⟩) (hi:bE e i=.int .i64 k)
 (hK:K (a.arg k).val h):dz (gD prog e ⟨d,.index 26 x i,ty,pos,af,g⟩ h) K:=by
 have:gD prog e ⟨d,.index 26 x i,ty,pos,af,g⟩ h=some ((a.arg k).val,h):=by
  unfold gD
  have hp:plain (.agg ⟨a.dN⟩)=true:=rfl
  have xA:plain (.int .i64 (k:Int))=true:=rfl
  rw [aB (by simp [Op.operands,hx,hi,hp,xA])]
  have:gd prog (execOp (bE e) ⟨d,.index 26 x i,ty,pos,af,g⟩)=some (.value (a.arg k).val):=by
   simp only [execOp,hx,hi]
   exact zvV a k IZ
  rw [this]
  rfl
 rw [this]
 exact hK
theorem zye (a b:ae) (h:Heap) (K:aO)
 (hk:∀ h',Ext h h'->K (.bool (kG a b)) h'):Ok prog aJ ov 124 [a.val,b.val] h K:=by
 rw [az h]
 have z:=Ext.refl h
 refine Ok.aF 32 (bY Hr) ?_
 simp only [aa,seval,HS,ae.val,ae.cells]
 repeat' (((with_reducible first|apply cm|apply oQ) <;> intro _) <;> simp only [aa,seval,HS])
 all_goals first
  |(have e:kG a b=true:=by
     unfold kG
     simp only [dW,ix]
     refine ⟨?_,?_,?_,?_,?_⟩ <;> first|assumption|omega
    rw [e] at hk
    exact hk _ z.aw)
  |(have e:kG a b=false:=by
     cases he:kG a b
     .rfl
     .exfalso
      unfold kG at he
      simp only [dW,ix] at he
      obtain ⟨e1,e2,e3,e4,e5⟩:=he
      first|contradiction|omega
    rw [e] at hk
    exact hk _ z.aw)
theorem zib {p g:ae} {k:Nat} (h:pY p g k l=none) (Dq:k<=m):pY p g m l=none:=by
 induction m with
 |zero =>
  have:k=0:=by omega
  subst this
  exact h
 |succ m ih =>
  by_cases he:k=m+1
  .subst he;exact h
  .unfold pY
   rw [ih (by omega)]
   rfl
theorem Gn {I:Nat->Env->Heap->Prop} {Q:Ex->Env->Heap->Prop} {x:Ex} {h0 h1:Heap} {bs:List aZ} (z:Ext h0 (h1.lay bs w)) (hk:∀ H,Ext h0 H->(∀ A b,ak h1 A b->ak H A b)->bP h1 H->Ck I m Q x e (H.lay [] H.low)):Ck I m Q x e (h1.lay bs w):=by
 have:=hk _ z (λA b q=>q.on bs w) (bP.lay _ _ _)
 rwa [<- az] at this
theorem Mz (a:ae):a.cells[2]? = some (.int .i64 a.n):=rfl
theorem zob (a:ae):cut a.cells 3 8=some a.dN:=rfl
theorem LR (a:ae) (k:Nat) (hk:k < 4):cut a.cells (3+k*2) 2=some (a.arg k).cells:=by
 have:k=0\/k=1\/k=2\/k=3:=by omega
 rcases this with rfl|rfl|rfl|rfl <;> rfl
theorem zBE (l:List av) (v:ai) (p g:ae) (h:Heap) (hl:Sl aG.bind h v l) (hs:l.length<=890) (K:aO)
 (hk:∀ h' w b,Ext h h'->(bz l p g=none->b=false)->(∀ m,bz l p g=some m->b=true/\Sl aG.bind h' w m)->K (.tuple #[w,.bool b]) h'):Ok prog aJ ov 97 [v,p.val,g.val] h K:=by
 rw [az h]
 have z:=Ext.refl h
 refine Ok.aF 118 (bY Yy) ?_
 repeat' (simp only [aa,seval,kN,js])
 refine GC l _ _ ((hl.mono z.inc).lay _ _) (by omega) _ (λh' e x he=>?_)
 have q0:=ak.top (i:=0) x rfl
 have q1:=ak.top (i:=1) x rfl
 (replace z:=z.au x;rw [az h'])
 simp only [aa,seval,kN]
 refine Ps ?_ ?_
 .intro aL
  repeat' (simp only [aa,seval,kN])
  have hn:bz l p g=none:=by unfold bz;rw [aB (.inl (λhh=>aL (he.2 hh)))]
  exact hk _ _ _ z.aw (λ_=>rfl) (λm hm=>by rw [hn] at hm;cases hm)
 intro vx
 have hC:=he.1 vx
 simp only [aa,seval,kN,q0.lay,q1.lay,↓fU,eG,dS]
 refine zye p g _ _ (λh' x=>?_)
 (replace z:=z.au x;replace q0:=q0.over x;replace q1:=q1.over x;rw [az h'])
 cases mT:kG p g
 .repeat' (first|simp only [aa,seval,kN]|((with_reducible apply cK);(· rfl)))
  have hn:bz l p g=none:=by unfold bz;rw [aB (.inr (.inl mT))]
  exact hk _ _ _ z.aw (λ_=>rfl) (λm hm=>by rw [hn] at hm;cases hm)
 repeat' (first|simp only [aa,seval,kN,q1.lay,↓fU,eG,dS]|((with_reducible apply cK);(· rfl)))
 refine zoS g _ _ (λh' x=>?_)
 (replace z:=z.au x;replace q0:=q0.over x;replace q1:=q1.over x;rw [az h'])
 cases A9:g.ground
 .repeat' (first|simp only [aa,seval,kN]|((with_reducible apply cK);(· rfl)))
  have hn:bz l p g=none:=by unfold bz;rw [aB (.inr (.inr A9))]
  exact hk _ _ _ z.aw (λ_=>rfl) (λm hm=>by rw [hn] at hm;cases hm)
 repeat' (first|simp only [aa,seval,kN,q0.lay,↓zob]|((with_reducible apply cK);(· rfl)))
 have hp4:0<=p.n/\p.n<=4:=by
  unfold kG at mT
  simp only [dW,ix] at mT
  exact mT.2.2.2
 obtain ⟨I1,bo⟩:∃ I:Nat->Env->Heap->Prop,I=(λn e h'=>∃ (k:Nat) (h1:Heap),h'=h1.lay [] h1.low/\Ext h h1/\(n=4 - k/\k<=4/\(∀ i,i < k->(i:Int) < p.n->po l (p.arg i)=false)/\ak h1 (h.size+0) (.row p.cells 28 false)/\ak h1 (h.size+1) (.row g.cells 28 false))/\∃ J:Nat->ai,e=(v::jr J 1 3 (.pointer (some ⟨h.size+0,0,none⟩)::.pointer (some ⟨h.size+1,0,none⟩)::jr J 6 30 (.agg ⟨p.dN⟩::.int .i64 k::jr J 38 83 ([]))))):=⟨_,rfl⟩
 refine fh I1 _ (by rw [bo];exact ⟨0,_,rfl,z,⟨rfl,by omega,by intro i hi;omega,q0,q1⟩,bO⟩) ?_
 intro n e h' aU
 rw [bo] at aU
 obtain ⟨k,cF,rfl,z,hinv,J,rfl⟩:=aU
 clear q0 q1
 obtain ⟨rfl,IZ,Ix,q0,q1⟩:=hinv
 have hw:=gE k (by omega)
 simp only [aa,seval,kN]
 refine cm (λbc=>?_) (λbc=>?_)
 rotate_left
 .repeat' ( simp only [aa,seval,kN])
  have Iy:¬ ∃ i:Nat,i < 4/\(i:Int) < p.n/\po l (p.arg i)=true:=by
   rintro ⟨i,g1,g2,g3⟩
   rw [Ix i (by omega) g2] at g3
   cases g3
  have yP:bz l p g=pY p g p.n.toNat l:=by
   unfold bz
   rw [aA (by simp [hC,mT,A9]),aA Iy]
  refine zwf l v _ ((hl.mono z.inc).lay _ _) (by omega) _ (λh' w x pe=>?_)
  (replace z:=z.au x;replace q0:=q0.over x;replace q1:=q1.over x;rw [az h'])
  repeat' (simp only [aa,seval,kN,q0.lay,↓zob])
  obtain ⟨I2,gN⟩:∃ I:Nat->Env->Heap->Prop,I=(λn e h'=>∃ (k:Nat) (out:List av) (w:ai) (h1:Heap),h'=h1.lay [] h1.low/\Ext h h1/\(n=4 - k/\k<=4/\k<=p.n.toNat/\pY p g k l=some out/\Sl aG.bind h1 w out/\out.length<=l.length+k/\ak h1 (h.size+0) (.row p.cells 28 false)/\ak h1 (h.size+1) (.row g.cells 28 false))/\∃ J:Nat->ai,e=(jr J 0 4 (.pointer (some ⟨h.size+0,0,none⟩)::.pointer (some ⟨h.size+1,0,none⟩)::jr J 6 6 (w::.bool true::jr J 14 58 (.agg ⟨p.dN⟩::.int .i64 k::jr J 74 47 ([])))))):=⟨_,rfl⟩
  refine fh I2 _ (by rw [gN];exact ⟨0,l,w,_,rfl,z,⟨rfl,by omega,by omega,rfl,pe,by omega,q0,q1⟩,bO⟩) ?_
  intro n e h' aU
  rw [gN] at aU
  obtain ⟨k,out,w,da,rfl,z,hinv,J,rfl⟩:=aU
  clear q0 q1
  obtain ⟨rfl,IZ,I6,zj,gz,hlen,q0,q1⟩:=hinv
  have hw:=gE k (by omega)
  simp only [aa,seval,kN]
  refine cm (λbc=>?_) (λbc=>?_)
  rotate_left
  .repeat' (first|simp only [aa,seval,kN]|((with_reducible apply cK);(· rfl)))
   have nz:p.n.toNat=k:=by omega
   rw [yP,nz,zj] at hk
   exact hk _ _ _ z.aw (λhm=>by cases hm) (λm hm=>by cases hm;exact ⟨rfl,gz.lay _ _⟩)
  rcases hg:bx out (p.arg k).s with ⟨⟨tv,ts⟩,pb⟩
  have IY:(0:Int)<=(k:Int)/\(k:Int) < 4:=by omega
  have kP:=LR g k (by omega)
  have CW:∀ (Q:Ex->Env->Heap->Prop) (e:Env) (h:Heap),w8 3 Q (.exit 2) e h=Q (.exit 2) e h:=λQ e h=>zkH 3 2 Q e h rfl
  simp only [aa,seval,kN]
  repeat' ((first|((with_reducible apply oQ) <;> intro _)|(with_reducible refine zoz (by omega) rfl rfl ?_)|((with_reducible apply cK);(· rfl))) <;> simp only [aa,seval,kN,iw,iy,jt,Am.one,iv,fW,Ce,ij,q0.lay,q1.lay,Mz,ay.val,ay.cells,IY,↓kP,CW])
  .have nz:p.n.toNat=k:=by omega
   rw [yP,nz,zj] at hk
   exact hk _ _ _ z.aw (λhm=>by cases hm) (λm hm=>by cases hm;exact ⟨rfl,gz.lay _ _⟩)
  have nC:pY p g (k+1) l=qB out (p.arg k) (g.arg k):=by
   conv=>lhs;unfold pY
   rw [zj]
   rfl
  refine EX out w (p.arg k).s _ (gz.lay _ _) (by omega) _ (λh' x=>?_)
  rw [hg]
  have q2:=ak.top (i:=0) x rfl
  have q3:=ak.top (i:=1) x rfl
  replace gz:=gz.over x
  (replace z:=z.au x;replace q0:=q0.over x;replace q1:=q1.over x;rw [az h'])
  simp only [aa,seval,kN,ay.val,ay.cells]
  repeat' ((first|((with_reducible apply cm) <;> intro _)|with_reducible refine sx (λ_=>?_) (λ_=>?_)|((with_reducible apply cK);(· rfl))) <;> simp only [aa,seval,kN,iw,iy,jt,Am.one,iv,fW,ij,q2.lay,q3.lay,zk8,CW])
  all_goals try first
   |((with_reducible refine hk _ _ _ z.aw (λ_=>rfl) (λm hm=>?_))
     have vT:qB out (p.arg k) (g.arg k)=none:=by
      unfold qB
      rw [hg]
      first
       |rw [aB (by assumption),aA (by assumption)]
       |rw [aA (by simp [*]),aB (by assumption),aA (by assumption)]
     have hn:bz l p g=none:=by
      rw [yP]
      exact zib (k:=k+1) (by rw [nC,vT]) (by omega)
     rw [hn] at hm
     cases hm)
   |(have vT:qB out (p.arg k) (g.arg k)=some out:=by
      unfold qB
      rw [hg]
      first
       |rw [aB (by assumption),aB (by assumption)]
       |rw [aA (by simp [*]),aB (by assumption),aB (by assumption)]
     rw [hw]
     refine Gn z.aw (λH z hO hI=>?_)
     (rw [gN];with_reducible refine dA (m:=_) ?_ ⟨k+1,out,w,_,rfl,z,⟨rfl,by omega,by omega,by rw [nC,vT],gz.mono hI,by omega,hO _ _ q0,hO _ _ q1⟩,bO⟩;omega))
  have vT:qB out (p.arg k) (g.arg k)=iN out (p.arg k).s (g.arg k):=by
   unfold qB
   rw [hg,aA (by simp [*]),aA (by simp [*])]
  refine zAr out w (p.arg k).s (g.arg k) _ (gz.lay _ _) (by omega) _ (λh' w2 e x M3 CZ=>?_)
  (replace z:=z.au x;replace q0:=q0.over x;replace q1:=q1.over x;rw [az h'])
  have dg:∀ (h:Heap) (K:aO),aM (some w2) h K=K w2 h:=λ_ _=>rfl
  by_cases yM:e=0
  .have CX:(e == 0)=true:=by simpa using yM
   simp only [aa,seval,kN,dg,CX]
   repeat' (((with_reducible apply cK);(· rfl)) <;> simp only [aa,seval,kN])
   cases gV:iN out (p.arg k).s (g.arg k) with
   |none=>exact absurd yM (M3 gV)
   |some m =>
    have gO:=(CZ m gV).2
    have Je:=zh2 gV
    rw [hw]
    (rw [gN];with_reducible refine dA (m:=_) ?_ ⟨k+1,m,w2,_,rfl,z,⟨rfl,by omega,by omega,by rw [nC,vT,gV],gO,by omega,q0,q1⟩,bO⟩;omega)
  .have CX:(e == 0)=false:=by simpa using yM
   simp only [aa,seval,kN,dg,CX]
   repeat' (((with_reducible apply cK);(· rfl)) <;> simp only [aa,seval,kN,CW])
   have hn:bz l p g=none:=by
    rw [yP]
    refine zib (k:=k+1) ?_ (by omega)
    rw [nC,vT]
    cases gV:iN out (p.arg k).s (g.arg k) with
    |none=>rfl
    |some m=>exact absurd (CZ m gV).1 yM
   exact hk _ _ _ z.aw (λ_=>rfl) (λm hm=>by rw [hn] at hm;cases hm)
 rcases hg:bx l (p.arg k).s with ⟨⟨tv,ts⟩,pb⟩
 simp only [aa,seval,kN]
 repeat' ((with_reducible refine zoz (by omega) rfl rfl ?_) <;> simp only [aa,seval,kN,iw,iy,jt,Am.one,iv,fW,ij,ay.val,ay.cells])
 refine EX l v (p.arg k).s _ (hl.mono z.aw.inc) (by omega) _ (λh' x=>?_)
 rw [hg]
 have q2:=ak.top (i:=0) x rfl
 (replace z:=z.au x;replace q0:=q0.over x;replace q1:=q1.over x;rw [az h'])
 simp only [aa,seval,kN,ay.val,ay.cells]
 repeat' ((first|((with_reducible apply cm) <;> intro _)|with_reducible refine sx (λ_=>?_) (λ_=>?_)) <;> simp only [aa,seval,kN,iw,iy,jt,Am.one,iv,fW,ij,q0.lay,q2.lay,Mz])
 all_goals first
  |((with_reducible refine hk _ _ _ z.aw (λ_=>rfl) (λm hm=>?_))
    have hb:po l (p.arg k)=true:=by (unfold po;rw [hg];simp [*])
    have hn:bz l p g=none:=by
     unfold bz
     split
     .rfl
     .rw [aB ⟨k,by omega,by omega,hb⟩]
    rw [hn] at hm
    cases hm)
  |(have DB:∀ i,i < k+1->(i:Int) < p.n->po l (p.arg i)=false:=by
     intro i hi aU
     by_cases vG:i=k
     .subst vG
      first|(exfalso;omega)|(unfold po;rw [hg];simp [*])
     .exact Ix i (by omega) aU
    rw [hw]
    refine Gn z.aw (λH z hO _=>?_)
    (rw [bo];with_reducible refine dA (m:=_) ?_ ⟨k+1,_,rfl,z,⟨rfl,by omega,DB,hO _ _ q0,hO _ _ q1⟩,bO⟩;omega))
end Go.Proofs.YtnkmeidmdaidhaaGreatDoor
