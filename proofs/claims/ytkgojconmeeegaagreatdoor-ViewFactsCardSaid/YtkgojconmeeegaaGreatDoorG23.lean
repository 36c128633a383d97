/- Walks: bindings: may they be Written out by fill2.py. No condition. -/
import Derived.Test.YtkgojconmeeegaaGreatDoorG22
set_option linter.unusedSimpArgs false
set_option linter.unusedVariables false
set_option maxRecDepth 100000
set_option maxHeartbeats 0
namespace Go.Proofs.YtkgojconmeeegaaGreatDoor
open Go.Am Tryz
variable {m w:Nat} {e:Env} {h:Heap} {l:List aN}
theorem zpq {I:Nat->Env->Heap->Prop} {Q:Ex->Env->Heap->Prop} {x:Ex} {h0 h1:Heap} {bs:List bh} (z:Ext h0 (h1.lay bs w)) (hk:∀ H,Ext h0 H->EX I m Q x e (H.lay [] H.low)):EX I m Q x e (h1.lay bs w):=by
 have:=hk _ z
 rwa [<- ao] at this
theorem zti (l:List aN) (v:ae) (h:Heap) (hl:Sl aJ.bind h v l) (hs:l.length<=1000) (K:aG)
 (hk:∀ h' e,Ext h h'->(e=0↔s7 l)->K (.int .i64 e) h'):Ok prog aA ov 175 [v] h K:=by
 rw [ao h]
 have z:=Ext.refl h
 refine Ok.aq 36 (bm Lc) ?_
 repeat' (simp only [aa,seval,ou])
 refine ztp l _ _ (hl.lay _ _) hs _ (λh' b x hb=>?_)
 (replace z:=z.aj x;rw [ao h'])
 cases b
 .repeat' (first|simp only [aa,seval,ou]|((with_reducible apply bI);(· rfl)))
  refine hk _ _ ?_ ?_
  .exact z.au
  .exact ⟨λhh=>absurd hh (by decide),λhh=>absurd (hb.2 hh.1) (by simp)⟩
 have hR:=hb.1 rfl
 simp only [aa,seval,ou]
 repeat' ((first|with_reducible refine uQ (hl.mono z.inc) dm ?_|((with_reducible apply bI);(· rfl))) <;> simp only [aa,seval,ou])
 obtain ⟨I1,aO⟩:∃ I:Nat->Env->Heap->Prop,I=(λn e h'=>∃ (i:Nat) (h1:Heap),h'=h1.lay [] h1.low/\Ext h h1/\(n=l.length - i/\i<=l.length/\∀ b∈l.take i,b.term.s≠⟨#[]⟩/\¬ (b.term.v=true/\(jC l b.term.s).2=true))/\∃ J:Nat->ae,e=(v::jr J 1 9 (v::.int .i64 l.length::.int .i64 i::jr J 13 24 ([])))):=⟨_,rfl⟩
 refine cK I1 _ (by rw [aO];exact ⟨0,_,rfl,z,⟨rfl,by omega,by simp⟩,bc⟩) ?_
 intro n e h' aK
 rw [aO] at aK
 obtain ⟨i,bD,rfl,z,hinv,J,rfl⟩:=aK
 obtain ⟨rfl,hi,aC⟩:=hinv
 have hw:=dE i (by omega)
 simp only [aa,seval,ou]
 refine bg (λaP=>?_) (λaP=>?_)
 rotate_left
 .simp only [aa,seval,ou]
  rw [fX (by omega)] at aC
  exact hk _ _ z.au ⟨λ_=>⟨hR,aC⟩,λ_=>rfl⟩
 obtain ⟨r,hr,bM⟩:=eb (l:=l) (i:=i) aP
 have b9:=ig bM
 rcases hg:jC l r.term.s with ⟨⟨tv,ts⟩,pb⟩
 simp only [aa,seval,ou]
 repeat' ((first|with_reducible refine sS (hl.mono z.inc) dm mO (by omega) hr (λp hp=>?_)|with_reducible refine OC hp Ka mO ?_) <;> simp only [aa,seval,ou,iR,gL,ij,Am.one,iT,gX,SO,aN.val,aN.cells])
 refine St l _ r.term.s _ (hl.mono z.au.inc) hs _ (λh' x=>?_)
 rw [hg]
 have q0:=Holds.top (i:=0) x rfl
 (replace z:=z.aj x;rw [ao h'])
 simp only [aa,seval,ou,aH.val,aH.cells]
 repeat' ((first|((with_reducible apply bg) <;> intro _)|with_reducible refine tZ (λ_=>?_) (λ_=>?_)) <;> simp only [aa,seval,ou,iR,gL,ij,Am.one,iT,gX,gA,q0.lay])
 all_goals first
  |((with_reducible refine hk _ _ ?_ ?_);(· exact z.au);(· refine ⟨λhh=>absurd hh (by decide),λhh=>?_⟩;have rh:=hh.2 r b9;rw [hg] at rh;clear aO;exfalso;simp_all))
  |(rw [hw];(refine zpq z.au (λH z=>?_));(rw [aO];with_reducible refine bS (m:=_) ?_ ⟨i+1,_,rfl,z,⟨rfl,by omega,mL (i:=i) (P:=λb:aN=>b.term.s≠⟨#[]⟩/\¬ (b.term.v=true/\(jC l b.term.s).2=true)) bM aC (by rw [hg];simp_all)⟩,bc⟩;omega))
theorem zyj (l:List aN) (v:ae) (t:aH) (h:Heap) (hl:Sl aJ.bind h v l) (hs:l.length<=1000) (K:aG)
 (hk:∀ h',Ext h h'->K (mP l t).val h'):Ok prog aA ov 205 [v,t.val] h K:=by
 rw [ao h]
 have z:=Ext.refl h
 rcases hg:jC l t.s with ⟨⟨tv,ts⟩,pb⟩
 unfold mP at hk
 rw [hg] at hk
 refine Ok.aq 19 (bm Ly) ?_
 simp only [aa,seval,xE,aH.val,aH.cells]
 repeat' ((first|((with_reducible first|apply bg|apply lz|apply im|apply uR|apply zr) <;> intro _)) <;> simp only [aa,seval,xE,UU,iR,gL,ij,Am.one,Bool.and_true,Bool.true_and,iT,gX,EM,Ee,kA,st9,gA,vQ,SO,aH.val,aH.cells])
 refine St l _ t.s _ (hl.lay _ _) hs _ (λh' x=>?_)
 rw [hg]
 have q0:=Holds.top (i:=0) x rfl
 have q1:=Holds.top (i:=1) x rfl
 (replace z:=z.aj x;rw [ao h'])
 have hz:=z.size
 simp only [aa,seval,xE,aH.val,aH.cells]
 repeat' ((with_reducible refine tZ (λ_=>?_) (λ_=>?_)) <;> simp only [aa,seval,xE,iR,gL,ij,Am.one,iT,gX,gA,q0.lay])
 all_goals
  refine HG q1 fK rfl rfl rfl (λj4 I6 c=>?_)
  replace z:=z.au.step c (by omega)
  rw [ao j4]
  simp only [aa,seval,xE,I6.lay]
  simp only [*,and_self,and_false,false_and,gW,if_true,if_false] at hk
  exact hk _ z.au
theorem zC0 (b:aN) (h:Heap) (K:aG)
 (hk:∀ h',Ext h h'->K (.bool (rJ b)) h'):Ok prog aA ov 206 [b.val] h K:=by
 rw [ao h]
 have z:=Ext.refl h
 unfold rJ at hk
 refine Ok.aq 13 (bm Lz) ?_
 simp only [aa,seval,Mn,aN.val,aN.cells]
 repeat' ((first|((with_reducible apply bg) <;> intro _)|with_reducible refine tZ (λ_=>?_) (λ_=>?_)) <;> simp only [aa,seval,Mn])
 all_goals
  simp only [*,decide_true,decide_false,iT,Bool.and_false,Bool.false_and] at hk
  exact hk _ z.au
theorem zwD {P:Program} {T:bL} {t:TypeId} {a b:aB}:bY P T .gtr t (.string a) (.string b)=some (.bool (slt b a)):=by
 refine HM rfl ?_ rfl
 have e:slt b a = !(slt a b || (a.toList == b.toList)):=by
  rw [As,As,U9]
  cases h1:slt a b
  .cases h2:slt b a
   .have:=zqe h1 h2
    simp [this]
   .have:a≠b:=λhh=>by subst hh;rw [zhY] at h2;cases h2
    simp [this]
  .cases h2:slt b a
   .rfl
   .have:=Uz h1 h2
    rw [zhY] at this
    cases this
 rw [e]
 unfold Op.stringOp slt
 simp only [As]
 rfl
theorem zAr (l:List aN) (v:ae) (b:aN) (i:Nat) (A B:Nat) (h:Heap) (hl:Sl aJ.bind h v l) (hs:l.length<=1000) (hi:i < l.length) (q0:Holds h A (.row [v] 62 false)) (q1:Holds h B (.row b.cells 195 false)) (K:aG)
 (hk:∀ h',Ext h h'->K (.bool (match l[i]? with|some x=>slt b.var x.var|none=>false)) h'):Ok prog aA ov 222 [.int .i64 i,.pointer (some ⟨A,0,none⟩),.pointer (some ⟨B,0,none⟩)] h K:=by
 rw [ao h]
 have z:=Ext.refl h
 obtain ⟨r,hr,bM⟩:=eb (l:=l) (i:=i) (by omega)
 rw [bM] at hk
 unfold aN.cells at q1
 refine Ok.aq 10 (bm LN) ?_
 simp only [aa,seval,Ft]
 repeat' ((first|with_reducible refine sS (hl.mono z.inc) dm mO (by omega) hr (λp hp=>?_)|with_reducible refine qY hp qJ (λq hq=>?_)|with_reducible refine fo hq gU ?_|with_reducible refine cZ (by simp only [Ft]) z.au ?_|((with_reducible refine ⟨z.bZ.lay _ _,?_⟩);(intro _ h' zz x _);(simp only [bG,bu] at x);(replace z:=zz);(clear zz);rw [ao h'])) <;> simp only [aa,seval,Ft,q0.lay,q1.lay,zwD,ztN])
 exact hk _ z.au
theorem zmD (b:aN):cut b.cells 0 3=some b.cells:=rfl
theorem zmk (b:aN):Value.agg b.cells.toArray=b.val:=rfl
theorem zln (b:aN):b.val.cells.toList=b.cells:=rfl
theorem Rs (b:aN) (h:Heap) (K:aG):aD (some b.val) h K=K b.val h:=rfl
theorem zK:rW aA 62 62=true:=by kernel_rfl
theorem zjs (b:aN) (z0 z1 z2:ae):sU (λi=>some (i*3,3)) [z0,z1,z2] [(0,b.val)]=some b.cells:=rfl
theorem zC5 (l:List aN) (v:ae) (b:aN) (h:Heap) (hl:Sl aJ.bind h v l) (hs:l.length<=1000) (hR:sO l l.length) (K:aG)
 (hk:∀ h' w,Ext h h'->Sl aJ.bind h' w (uV l b)->K w h'):Ok prog aA ov 207 [v,b.val] h K:=by
 rw [ao h]
 have z:=Ext.refl h
 have hc:v.cells.toList=[v]:=ztG hl
 have dn:∀ (h:Heap) (K:aG),aD (some v) h K=K v h:=λ_ _=>rfl
 refine Ok.aq 19 (bm LA) ?_
 simp only [aa,seval,oz,hc,dn,zln]
 repeat' ((with_reducible refine uQ (hl.mono z.inc) dm ?_) <;> simp only [aa,seval,oz])
 refine zpK l.length hs _ (λi=>match l[i]? with|some x=>slt b.var x.var|none=>false) _ (λi tz K' hi xe jP=>?_) _ (λj4 i x hi cM j5=>?_)
 .rw [uM]
  have xe':=z.aj xe
  exact zAr l v b i _ _ tz (hl.mono xe'.inc) hs hi (Holds.top (i:=0) xe rfl) (Holds.top (i:=1) xe rfl) K' jP
 have q0:=Holds.top (i:=0) x rfl
 have q1:=Holds.top (i:=1) x rfl
 (replace z:=z.aj x;rw [ao j4])
 have hw:=zBh (b:=b) hR hi cM j5
 rw [hw] at hk
 clear cM j5
 simp only [aa,seval,oz]
 refine (cZ (by simp only [oz])) z.au ?_
 simp only [aa,seval,oz,q0.lay,dn]
 repeat' ((with_reducible refine zxm (hl.mono z.inc) dm mO (by omega) (λbase hb=>?_)) <;> simp only [aa,seval,oz,q1.lay,↓zmD,zmk,Rs])
 simp only [aa,seval,zjs]
 refine tS (by have:=z.size;omega) (by omega) ?_
 simp only [cR,seval,oz,ja,zK]
 have hz:=z.size
 have hlen:(l.take i).length=i:=by rw [fj];omega
 have nW:Sl aJ.bind (j4.lay [bh.row b.cells 195 false] (j4.size+1)) (.slice base (l.take i).length (l.take i).length) (l.take i):=by rw [hlen];exact hb.lay _ _
 obtain ⟨ka,gu⟩:=CO (A:=(j4.lay [bh.row b.cells 195 false] (j4.size+1)).size) (r:=aJ.bind) (c:=1) (y:=b) (by decide) (show (j4.lay [bh.row b.cells 195 false] (j4.size+1)).get (j4.size+0)=some (.row b.cells 195 false) by rw [gH];rfl) rfl
 rw [UT (bo _)] at gu
 obtain ⟨w1,h',e1,o1,x⟩:=zsT (h0:=h) (t:=62) dm vU rfl (by decide) (by rw [bf];omega) nW ka gu (by omega) (by omega) (by omega)
 rw [hlen] at e1
 rw [e1]
 refine di (by simp only [bf,de,dr];omega) (by simpa only [bG,bf,bu,de,dr,iu] using x) ?_
 (replace z:=z.aj x;replace q0:=q0.over x;rw [ao h'])
 simp only [aa,seval,oz,q0.lay,dn]
 repeat' ((with_reducible refine zo7 (hl.mono z.inc) (by decide) dm mO (by omega) (λw2 qw=>?_)) <;> simp only [cR,seval,oz])
 simp only [cR,seval,ja,zK]
 have zU:(j4.lay [bh.row b.cells 195 false] (j4.size+1)).size=j4.size+1:=by rw [bf];rfl
 rw [zU] at o1
 obtain ⟨news,gr,tI⟩:=rX (A:=j4.size+1) (h:=h'.lay [] (h'.size+0)) (r:=aJ.bind) (by decide) (qw.lay _ _) (λcs y hr=>hr)
 have BQ:(l.take i++[b]).length=i+1:=by rw [cW,hlen];rfl
 have yv:(l.drop i).length<=1000:=by rw [lk];omega
 have TG:=z.size
 obtain ⟨w3,h3,A3,e3,o3,c3,e4,e5⟩:=tX (t:=62) dm vU rfl (by decide) (by rw [bf];omega) (o1.mono (b8.lay _ _ _)) gr tI (by rw [BQ];omega) (by rw [BQ];omega)
 rw [e3]
 simp only [syms,seval]
 refine mW (A:=j4.size+1) (by kernel_rfl) (by rw [bf];omega) (by omega) (by simpa only [bG,bf,bu,de,dr,iu] using c3) ?_
 replace z:=(z.je [] (h'.size+0) (by omega)).step c3 (by omega)
 rw [ao h3]
 repeat' (first|simp only [aa,seval,oz]|((with_reducible refine ⟨z.bZ.lay _ _,?_⟩);(intro _ h' zz x _);(simp only [bG,bu] at x);replace o3:=o3.over x;(replace z:=zz);(clear zz);rw [ao h']))
 exact hk _ _ z.au (by have:=(o3.sl (by decide)).lay [] h'.low;simpa only [jD,List.singleton_append] using this)
theorem zsW (s:aB) (t:aH):od aA 195 [(0,.string s),(1,t.val)]=some (aN.val ⟨s,t⟩):=by kernel_rfl
theorem zAo (l m:List aN) (v u:ae) (h:Heap) (hl:Sl aJ.bind h v l) (hm:Sl aJ.bind h u m) (hs:l.length<=1000) (NP:m.length<=1000) (K:aG)
 (hk:∀ h' w,Ext h h'->Sl aJ.bind h' w (qN l m)->K w h'):Ok prog aA ov 208 [v,u] h K:=by
 rw [ao h]
 have z:=Ext.refl h
 refine Ok.aq 24 (bm LC) ?_
 simp only [aa,seval,ng]
 repeat' ((with_reducible refine uQ (hl.mono z.inc) dm ?_) <;> simp only [aa,seval,ng])
 obtain ⟨I1,aO⟩:∃ I:Nat->Env->Heap->Prop,I=(λn e h'=>∃ (i:Nat) (w:ae) (A:Nat) (h1:Heap),h'=h1.lay [] h1.low/\Ext h h1/\(n=l.length - i/\i<=l.length/\Ow aJ.bind h h1 195 A w (qN (l.take i) m))/\∃ J:Nat->ae,e=(v::u::jr J 2 3 (w::jr J 6 2 (v::.int .i64 l.length::.int .i64 i::jr J 11 15 ([]))))):=⟨_,rfl⟩
 refine cK I1 _ (by rw [aO];exact ⟨0,.slice none 0 0,h.size,_,rfl,z,⟨rfl,by omega,Ow.nil (bo _)⟩,bc⟩) ?_
 intro n e h' aK
 rw [aO] at aK
 obtain ⟨i,w,A,bD,rfl,z,hinv,J,rfl⟩:=aK
 obtain ⟨rfl,hi,ho⟩:=hinv
 have hw:=dE i (by omega)
 have hz:=z.size
 simp only [aa,seval,ng]
 refine bg (λaP=>?_) (λaP=>?_)
 rotate_left
 .repeat' ( simp only [aa,seval,ng])
  rw [fX (by omega)] at ho
  exact hk _ _ z.au ((ho.sl (by decide)).lay _ _)
 obtain ⟨r,hr,bM⟩:=eb (l:=l) (i:=i) aP
 have iZ:=ho.lt
 simp only [aa,seval,ng]
 repeat' ((first|with_reducible refine sS (hl.mono z.inc) dm mO (by omega) hr (λp hp=>?_)|with_reducible refine OC hp Ka mO ?_) <;> simp only [aa,seval,ng,iR,gL,ij,Am.one,iT,gX,SO,aN.val,aN.cells])
 refine (cZ (by simp only [ng])) z.au ?_
 repeat' (simp only [aa,seval,ng])
 refine zyj m u r.term _ ((hm.mono z.inc).lay _ _) NP _ (λh' x=>?_)
 (((with_reducible refine di ?_ ?_ ?_);(· exact (by (simp only [dp]);have:=z.size;omega));(· exact x));replace z:=z.aj x;replace ho:=ho.over x;rw [ao h'])
 simp only [aa,seval,ng,zsW,Rs,zjs]
 refine tS (by have:=z.size;omega) (by omega) ?_
 simp only [cR,seval,ng,ja,zK]
 have hlen:(qN (l.take i) m).length<=1000:=by unfold qN;rw [fV,fj];omega
 have zU:(h'.lay [bh.row (aN.cells ⟨r.var,mP m r.term⟩) 195 false] (h'.size+1)).size=h'.size+1:=by rw [bf];rfl
 have TG:=z.size
 obtain ⟨ka,gu⟩:=CO (A:=A) (r:=aJ.bind) (c:=1) (y:=⟨r.var,mP m r.term⟩) (by decide) (show (h'.lay [bh.row (aN.cells ⟨r.var,mP m r.term⟩) 195 false] (h'.size+1)).get (h'.size+0)=some (.row (aN.cells ⟨r.var,mP m r.term⟩) 195 false) by rw [gH];rfl) rfl
 obtain ⟨w',Dw,A'',e1,e2,e3,e4,e5⟩:=tX (t:=62) dm vU rfl (by decide) (by rw [zU];omega) (ho.mono (b8.lay _ _ _)) ka gu (by omega) (by omega)
 have rq:=ho.fresh
 rw [e1]
 simp only [syms,seval]
 refine mW (A:=A) (by kernel_rfl) (by rw [bf];omega) (by omega) (by simpa only [bG,bf,bu,de,dr,iu] using e3) ?_
 replace z:=(z.je [bh.row (aN.cells ⟨r.var,mP m r.term⟩) 195 false] (h'.size+1) (by omega)).step e3 rq
 have nZ:qN (l.take (i+1)) m=qN (l.take i) m++[⟨r.var,mP m r.term⟩]:=by rw [nT,bM];unfold qN;rw [AU];rfl
 rw [<- nZ] at e2
 clear ho
 rw [ao Dw]
 repeat' (first|simp only [aa,seval,ng]|((with_reducible refine ⟨z.bZ.lay _ _,?_⟩);(intro _ h' zz x _);(simp only [bG,bu] at x);replace e2:=e2.over x;(replace z:=zz);(clear zz);rw [ao h']))
 rw [hw]
 (rw [aO];with_reducible refine bS (m:=_) ?_ ⟨i+1,_,_,_,rfl,z,⟨rfl,by omega,e2⟩,bc⟩;omega)
theorem zoq (s xs:aB) (xv:Bool):od aA 195 [(0,.string s),(1,.agg ⟨[.bool xv,.string xs]⟩)]=some (.agg ⟨[.string s,.bool xv,.string xs]⟩):=by kernel_rfl
theorem SL {e:Int} {K:aG} (h1:e≠0->K (.bool true) h) (h2:e=0->K (.bool false) h):rY (e != 0) h K:=by
 refine ⟨λhh=>h1 (by simpa using hh),λhh=>h2 (by simpa using hh)⟩
theorem zz3 {v:ae} (f:Sl aJ.bind h v l):∃ b:Bool,bY prog aA .eql 62 v (.slice none 0 0)=some (.bool b)/\(b=true->l=[]):=by
 rcases f with ⟨rfl,rfl⟩|⟨A,o,c,row,u,ro,rfl,_⟩
 .exact ⟨true,by kernel_rfl,λ_=>rfl⟩
 .exact ⟨false,by kernel_rfl,nofun⟩
theorem zxT (l:List aN) (v:ae) (h:Heap) (hl:Sl aJ.bind h v l) (hs:l.length<=1000) (K:aG)
 (hk:∀ h' w,Ext h h'->Sl aJ.bind h' w l->K w h'):Ok prog aA ov 178 [v] h K:=by
 rw [ao h]
 obtain ⟨b,hb,mE⟩:=zz3 hl
 refine Ok.aq 7 (bm Lf) ?_
 simp only [aa,seval,Bi,hb]
 cases b
 .simp only [aa,seval,Bi,ja,zK]
  obtain ⟨news,hs,lQ⟩:=rX (A:=h.size+1) (r:=aJ.bind) (by decide) (hl.lay [.row [] 195 false] h.low) (λcs y hr=>hr)
  have f:Ow aJ.bind h (h.lay [.row [] 195 false] h.low) 195 (h.size+1) (.slice (some ⟨h.size+0,0,none⟩) 0 0) [] :=
   .inl ⟨by omega,rfl,.inr ⟨h.size+0,0,rfl,by omega,by rw [bf];simp,[],195,false,by rw [gH];rfl⟩⟩
  obtain ⟨w,h',A',e1,e2,e3,e4,e5⟩:=tX (t:=62) dm vU rfl (by decide) (by rw [bf];omega) f hs lQ (by simp only [dr];omega) (by simp only [dr];omega)
  rw [e1]
  simp only [aa,seval,Bi]
  exact hk _ _ ((Ext.refl h).cx e3 (by omega) (by omega)) (by have:=e2.sl (by decide);simpa using this)
 .simp only [aa,seval,Bi]
  rw [mE rfl] at hk
  exact hk _ _ ((Ext.refl h).je _ _ (by omega)) Sl.nil
theorem zAO {b:aN} {u:TypeId} {ro:Bool}:Sl aJ.bind (h.lay [.row b.cells u ro] w) (.slice (some ⟨h.size+0,0,none⟩) 1 1) [b]:=by
 refine .inr ⟨h.size+0,0,1,b.cells,u,ro,rfl,(by show 1<=maxLen;decide),.inl ⟨by decide,bo _⟩,by rw [bf];simp,by rw [gH];rfl,λi x hx=>?_⟩
 cases i with
 |zero =>
  simp at hx
  subst hx
  exact ⟨_,rfl,rfl⟩
 |succ i=>simp at hx
theorem zCR (l:List aN) (v:ae) (s:aB) (t:aH) (h:Heap) (hl:Sl aJ.bind h v l) (hs:l.length<=900) (K:aG)
 (hk:∀ h' w e,Ext h h'->(ua l s t=none->e≠0)->(∀ m,ua l s t=some m->e=0/\Sl aJ.bind h' w m)->K (.tuple #[w,.int .i64 e]) h'):Ok prog aA ov 179 [v,.string s,t.val] h K:=by
 rw [ao h]
 have z:=Ext.refl h
 rcases hg:jC l s with ⟨⟨tv,ts⟩,pb⟩
 obtain ⟨x,hx⟩:∃ x,x=mP l t:=⟨_,rfl⟩
 rcases x with ⟨xv,xs⟩
 unfold ua at hk
 rw [hg,<- hx] at hk
 refine Ok.aq 41 (bm Lg) ?_
 simp only [aa,seval,jN,aH.val,aH.cells]
 repeat' ((first|((with_reducible first|apply bg|apply lz|apply im|apply uR|apply zr) <;> intro _)|((with_reducible refine ⟨z.bZ.lay _ _,?_⟩);(intro _ h' zz x _);(first|simp only [bG,bu] at x|skip);(replace z:=zz);(clear zz);rw [ao h'])) <;> simp only [aa,seval,jN])
 refine zti l _ _ (hl.lay _ _) (by omega) _ (λh' e x he=>?_)
 have q0:=Holds.top (i:=0) x rfl
 (replace z:=z.aj x;rw [ao h'])
 simp only [aa,seval,jN]
 refine SL ?_ ?_
 .intro ba
  simp only [aa,seval,jN]
  have rh:¬ s7 l:=λhh=>ba (he.2 hh)
  rw [aE rh] at hk
  exact hk _ _ _ z.au (λ_=>by decide) (λm hm=>by cases hm)
 intro yi
 have hC:=he.1 yi
 rw [az (by simpa using hC)] at hk
 repeat' (simp only [aa,seval,jN])
 refine St l _ s _ ((hl.mono z.inc).lay _ _) (by omega) _ (λh' x=>?_)
 rw [hg]
 (replace z:=z.aj x;replace q0:=q0.over x;rw [ao h'])
 simp only [aa,seval,jN,aH.val,aH.cells]
 repeat' ((first|((with_reducible first|apply bg|apply lz|apply im|apply uR|apply zr) <;> intro _)|((with_reducible refine ⟨z.bZ.lay _ _,?_⟩);(intro _ h' zz x _);(first|simp only [bG,bu] at x|skip);(first|replace q0:=q0.over x|skip);(replace z:=zz);(clear zz);rw [ao h'])) <;> simp only [aa,seval,jN,UU,iR,gL,ij,Am.one,Bool.and_true,Bool.true_and,iT,gX,EM,Ee,kA,st9,gA,vQ,SO,q0.lay,aH.val,aH.cells])
 refine tZ (λhpb=>?_) (λhpb=>?_)
 all_goals
  subst hpb
  repeat' (simp only [aa,seval,jN,iR,gL,ij,Am.one,iT,gX,gA,q0.lay])
  refine zyj l v t _ ((hl.mono z.inc).lay _ _) (by omega) _ (λh' x=>?_)
  rw [<- hx]
  (replace z:=z.aj x;replace q0:=q0.over x;rw [ao h'])
  repeat' (first|simp only [aa,seval,jN,iR,gL,ij,Am.one,iT,gX,SO,q0.lay,aH.val,aH.cells,zoq]|((with_reducible apply bg) <;> intro _))
 all_goals try
  ((with_reducible refine hk _ _ _ z.au ?_ ?_) <;> (clear hk;intros;first|decide|(exfalso;simp_all)))
 have h1:¬ (s=⟨#[]⟩\/t.s=⟨#[]⟩):=by simp [*]
 rw [az h1,az (by simp)] at hk
 refine zC0 ⟨s,⟨xv,xs⟩⟩ _ _ (λh' x=>?_)
 have q1:=Holds.top (i:=0) x rfl
 (replace z:=z.aj x;replace q0:=q0.over x;rw [ao h'])
 cases vD:rJ ⟨s,⟨xv,xs⟩⟩
 rotate_left
 .repeat' ( simp only [aa,seval,jN])
  rw [aE vD] at hk
  exact hk _ _ _ z.au (λ_=>by decide) (λm hm=>by cases hm)
 rw [az (by rw [vD];decide)] at hk
 repeat' (simp only [aa,seval,jN])
 refine (cZ (by simp only [jN])) z.au ?_
 repeat' (simp only [aa,seval,jN,q1.lay])
 refine tS (by have:=z.size;omega) (by omega) ?_
 simp only [aa,seval,jN]
 refine zAo l [⟨s,⟨xv,xs⟩⟩] v _ _ ((hl.mono z.inc).lay _ _) (zAO (b:=⟨s,⟨xv,xs⟩⟩)) (by omega) (by simp) _ (λh' u x hu=>?_)
 (((with_reducible refine di ?_ ?_ ?_);(· exact (by (simp only [dp]);have:=z.size;omega));(· exact x));replace z:=z.aj x;replace q1:=q1.over x;rw [ao h'])
 repeat' (simp only [aa,seval,jN,q1.lay])
 refine zC5 (qN l [⟨s,⟨xv,xs⟩⟩]) u ⟨s,⟨xv,xs⟩⟩ _ (hu.lay _ _) (by unfold qN;rw [fV];omega) (zvA hC.1) _ (λh' w x hw=>?_)
 (((with_reducible refine di ?_ ?_ ?_);(· exact (by (simp only [dp]);have:=z.size;omega));(· exact x));replace z:=z.aj x;replace q1:=q1.over x;rw [ao h'])
 repeat' (first|simp only [aa,seval,jN]|((with_reducible refine ⟨z.bZ.lay _ _,?_⟩);(intro _ h' zz x _);(simp only [bG,bu] at x);replace hw:=hw.over x;(replace z:=zz);(clear zz);rw [ao h']))
 exact hk _ _ _ z.au (λhm=>by cases hm) (λm hm=>by cases hm;exact ⟨rfl,hw.lay _ _⟩)
theorem zqz (l:List aN) (b:aN):(uV l b).length=l.length+1:=by
 unfold uV
 rw [cW,de,<- oW,<- cW,List.takeWhile_append_dropWhile]
theorem zia {m:List aN} {s:aB} {t:aH} (h:ua l s t=some m):m.length=l.length+1:=by
 unfold ua at h
 split at h
 .cases h
 split at h
 .cases h
 split at h
 .cases h
 split at h
 .cases h
 .cases h
  rw [zqz]
  unfold qN
  rw [fV]
theorem zuz (a:ak):gT prog (do let y <- Instr.index 32 (.agg ⟨a.du⟩) (.int .i64 0);pure (Next.value y))=some (.value (a.arg 0).val):=by kernel_rfl
theorem zuA (a:ak):gT prog (do let y <- Instr.index 32 (.agg ⟨a.du⟩) (.int .i64 1);pure (Next.value y))=some (.value (a.arg 1).val):=by kernel_rfl
theorem zuB (a:ak):gT prog (do let y <- Instr.index 32 (.agg ⟨a.du⟩) (.int .i64 2);pure (Next.value y))=some (.value (a.arg 2).val):=by kernel_rfl
theorem zuC (a:ak):gT prog (do let y <- Instr.index 32 (.agg ⟨a.du⟩) (.int .i64 3);pure (Next.value y))=some (.value (a.arg 3).val):=by kernel_rfl
theorem zxs (a:ak) (k:Nat) (h:k < 4):gT prog (do let y <- Instr.index 32 (.agg ⟨a.du⟩) (.int .i64 k);pure (Next.value y))=some (.value (a.arg k).val):=by
 have:k=0\/k=1\/k=2\/k=3:=by omega
 rcases this with rfl|rfl|rfl|rfl
 .exact zuz a
 .exact zuA a
 .exact zuB a
 .exact zuC a
theorem zpb {d:Option Tmp} {ty:TypeId} {pos:String} {af:Array Edge} {g:Option (Nat × Bool)} {x i:Operand} {K:aG} {a:ak} {k:Nat} (tF:k < 4) (hx:bz e x=.agg ⟨a.du⟩) (hi:bz e i=.int .i64 k)
 (hK:K (a.arg k).val h):dx (ic prog e ⟨d,.index 32 x i,ty,pos,af,g⟩ h) K:=by
 have:ic prog e ⟨d,.index 32 x i,ty,pos,af,g⟩ h=some ((a.arg k).val,h):=by
  unfold ic
  have hp:plain (.agg ⟨a.du⟩)=true:=rfl
  have Ae:plain (.int .i64 (k:Int))=true:=rfl
  rw [aE (by simp [Op.operands,hx,hi,hp,Ae])]
  have:gT prog (execOp (bz e) ⟨d,.index 32 x i,ty,pos,af,g⟩)=some (.value (a.arg k).val):=by
   simp only [execOp,hx,hi]
   exact zxs a k tF
  rw [this]
  rfl
 rw [this]
 exact hK
theorem zz5 (a b:ak) (h:Heap) (K:aG)
 (hk:∀ h',Ext h h'->K (.bool (rU a b)) h'):Ok prog aA ov 176 [a.val,b.val] h K:=by
 rw [ao h]
 have z:=Ext.refl h
 refine Ok.aq 32 (bm Ld) ?_
 simp only [aa,seval,Mi,ak.val,ak.cells]
 repeat' (((with_reducible first|apply bg|apply lz) <;> intro _) <;> simp only [aa,seval,Mi])
 all_goals first
  |(have e:rU a b=true:=by
     unfold rU
     simp only [dP,gY]
     refine ⟨?_,?_,?_,?_,?_⟩ <;> first|assumption|omega
    rw [e] at hk
    exact hk _ z.au)
  |(have e:rU a b=false:=by
     cases he:rU a b
     .rfl
     .exfalso
      unfold rU at he
      simp only [dP,gY] at he
      obtain ⟨e1,e2,e3,e4,e5⟩:=he
      first|contradiction|omega
    rw [e] at hk
    exact hk _ z.au)
theorem Q5 {p g:ak} {k:Nat} (h:vW p g k l=none) (hkm:k<=m):vW p g m l=none:=by
 induction m with
 |zero =>
  have:k=0:=by omega
  subst this
  exact h
 |succ m ih =>
  by_cases he:k=m+1
  .subst he;exact h
  .unfold vW
   rw [ih (by omega)]
   rfl
theorem Ep {I:Nat->Env->Heap->Prop} {Q:Ex->Env->Heap->Prop} {x:Ex} {h0 h1:Heap} {bs:List bh} (z:Ext h0 (h1.lay bs w)) (hk:∀ H,Ext h0 H->(∀ A b,Holds h1 A b->Holds H A b)->b8 h1 H->EX I m Q x e (H.lay [] H.low)):EX I m Q x e (h1.lay bs w):=by
 have:=hk _ z (λA b q=>q.on bs w) (b8.lay _ _ _)
 rwa [<- ao] at this
theorem Ve (a:ak):a.cells[2]? = some (.int .i64 a.n):=rfl
theorem zoG (a:ak):cut a.cells 3 8=some a.du:=rfl
theorem RT (a:ak) (k:Nat) (hk:k < 4):cut a.cells (3+k*2) 2=some (a.arg k).cells:=by
 have:k=0\/k=1\/k=2\/k=3:=by omega
 rcases this with rfl|rfl|rfl|rfl <;> rfl
theorem zD7 (l:List aN) (v:ae) (p g:ak) (h:Heap) (hl:Sl aJ.bind h v l) (hs:l.length<=890) (K:aG)
 (hk:∀ h' w b,Ext h h'->(ec l p g=none->b=false)->(∀ m,ec l p g=some m->b=true/\Sl aJ.bind h' w m)->K (.tuple #[w,.bool b]) h'):Ok prog aA ov 137 [v,p.val,g.val] h K:=by
 rw [ao h]
 have z:=Ext.refl h
 refine Ok.aq 118 (bm KI) ?_
 repeat' (simp only [aa,seval,fF,fA])
 refine zti l _ _ ((hl.mono z.inc).lay _ _) (by omega) _ (λh' e x he=>?_)
 have q0:=Holds.top (i:=0) x rfl
 have q1:=Holds.top (i:=1) x rfl
 (replace z:=z.aj x;rw [ao h'])
 simp only [aa,seval,fF]
 refine SL ?_ ?_
 .intro ba
  repeat' (simp only [aa,seval,fF])
  have hn:ec l p g=none:=by unfold ec;rw [aE (.inl (λhh=>ba (he.2 hh)))]
  exact hk _ _ _ z.au (λ_=>rfl) (λm hm=>by rw [hn] at hm;cases hm)
 intro yi
 have hC:=he.1 yi
 simp only [aa,seval,fF,q0.lay,q1.lay,↓dW,dO,da]
 refine zz5 p g _ _ (λh' x=>?_)
 (replace z:=z.aj x;replace q0:=q0.over x;replace q1:=q1.over x;rw [ao h'])
 cases tx:rU p g
 .repeat' (first|simp only [aa,seval,fF]|((with_reducible apply bI);(· rfl)))
  have hn:ec l p g=none:=by unfold ec;rw [aE (.inr (.inl tx))]
  exact hk _ _ _ z.au (λ_=>rfl) (λm hm=>by rw [hn] at hm;cases hm)
 repeat' (first|simp only [aa,seval,fF,q1.lay,↓dW,dO,da]|((with_reducible apply bI);(· rfl)))
 refine zpD g _ _ (λh' x=>?_)
 (replace z:=z.aj x;replace q0:=q0.over x;replace q1:=q1.over x;rw [ao h'])
 cases BL:g.ground
 .repeat' (first|simp only [aa,seval,fF]|((with_reducible apply bI);(· rfl)))
  have hn:ec l p g=none:=by unfold ec;rw [aE (.inr (.inr BL))]
  exact hk _ _ _ z.au (λ_=>rfl) (λm hm=>by rw [hn] at hm;cases hm)
 repeat' (first|simp only [aa,seval,fF,q0.lay,↓zoG]|((with_reducible apply bI);(· rfl)))
 have IM:0<=p.n/\p.n<=4:=by
  unfold rU at tx
  simp only [dP,gY] at tx
  exact tx.2.2.2
 obtain ⟨I1,aO⟩:∃ I:Nat->Env->Heap->Prop,I=(λn e h'=>∃ (k:Nat) (h1:Heap),h'=h1.lay [] h1.low/\Ext h h1/\(n=4 - k/\k<=4/\(∀ i,i < k->(i:Int) < p.n->lH l (p.arg i)=false)/\Holds h1 (h.size+0) (.row p.cells 34 false)/\Holds h1 (h.size+1) (.row g.cells 34 false))/\∃ J:Nat->ae,e=(v::jr J 1 3 (.pointer (some ⟨h.size+0,0,none⟩)::.pointer (some ⟨h.size+1,0,none⟩)::jr J 6 30 (.agg ⟨p.du⟩::.int .i64 k::jr J 38 83 ([]))))):=⟨_,rfl⟩
 refine cK I1 _ (by rw [aO];exact ⟨0,_,rfl,z,⟨rfl,by omega,by intro i hi;omega,q0,q1⟩,bc⟩) ?_
 intro n e h' aK
 rw [aO] at aK
 obtain ⟨k,bD,rfl,z,hinv,J,rfl⟩:=aK
 clear q0 q1
 obtain ⟨rfl,tF,yb,q0,q1⟩:=hinv
 have hw:=dE k (by omega)
 simp only [aa,seval,fF]
 refine bg (λaP=>?_) (λaP=>?_)
 rotate_left
 .repeat' ( simp only [aa,seval,fF])
  have yc:¬ ∃ i:Nat,i < 4/\(i:Int) < p.n/\lH l (p.arg i)=true:=by
   rintro ⟨i,g1,g2,g3⟩
   rw [yb i (by omega) g2] at g3
   cases g3
  have pR:ec l p g=vW p g p.n.toNat l:=by
   unfold ec
   rw [az (by simp [hC,tx,BL]),az yc]
  refine zxT l v _ ((hl.mono z.inc).lay _ _) (by omega) _ (λh' w x ph=>?_)
  (replace z:=z.aj x;replace q0:=q0.over x;replace q1:=q1.over x;rw [ao h'])
  repeat' (simp only [aa,seval,fF,q0.lay,↓zoG])
  obtain ⟨I2,ey⟩:∃ I:Nat->Env->Heap->Prop,I=(λn e h'=>∃ (k:Nat) (out:List aN) (w:ae) (h1:Heap),h'=h1.lay [] h1.low/\Ext h h1/\(n=4 - k/\k<=4/\k<=p.n.toNat/\vW p g k l=some out/\Sl aJ.bind h1 w out/\out.length<=l.length+k/\Holds h1 (h.size+0) (.row p.cells 34 false)/\Holds h1 (h.size+1) (.row g.cells 34 false))/\∃ J:Nat->ae,e=(jr J 0 4 (.pointer (some ⟨h.size+0,0,none⟩)::.pointer (some ⟨h.size+1,0,none⟩)::jr J 6 6 (w::.bool true::jr J 14 58 (.agg ⟨p.du⟩::.int .i64 k::jr J 74 47 ([])))))):=⟨_,rfl⟩
  refine cK I2 _ (by rw [ey];exact ⟨0,l,w,_,rfl,z,⟨rfl,by omega,by omega,rfl,ph,by omega,q0,q1⟩,bc⟩) ?_
  intro n e h' aK
  rw [ey] at aK
  obtain ⟨k,out,w,j4,rfl,z,hinv,J,rfl⟩:=aK
  clear q0 q1
  obtain ⟨rfl,tF,II,kT,cT,hlen,q0,q1⟩:=hinv
  have hw:=dE k (by omega)
  simp only [aa,seval,fF]
  refine bg (λaP=>?_) (λaP=>?_)
  rotate_left
  .repeat' (first|simp only [aa,seval,fF]|((with_reducible apply bI);(· rfl)))
   have pV:p.n.toNat=k:=by omega
   rw [pR,pV,kT] at hk
   exact hk _ _ _ z.au (λhm=>by cases hm) (λm hm=>by cases hm;exact ⟨rfl,cT.lay _ _⟩)
  rcases hg:jC out (p.arg k).s with ⟨⟨tv,ts⟩,pb⟩
  have lN:(0:Int)<=(k:Int)/\(k:Int) < 4:=by omega
  have kE:=RT g k (by omega)
  have BC:∀ (Q:Ex->Env->Heap->Prop) (e:Env) (h:Heap),w8 3 Q (.exit 2) e h=Q (.exit 2) e h:=λQ e h=>zkC 3 2 Q e h rfl
  simp only [aa,seval,fF]
  repeat' ((first|((with_reducible apply lz) <;> intro _)|(with_reducible refine zpb (by omega) rfl rfl ?_)|((with_reducible apply bI);(· rfl))) <;> simp only [aa,seval,fF,iR,gL,ij,Am.one,iT,gX,EM,gA,q0.lay,q1.lay,Ve,aH.val,aH.cells,lN,↓kE,BC])
  .have pV:p.n.toNat=k:=by omega
   rw [pR,pV,kT] at hk
   exact hk _ _ _ z.au (λhm=>by cases hm) (λm hm=>by cases hm;exact ⟨rfl,cT.lay _ _⟩)
  have gd:vW p g (k+1) l=ql out (p.arg k) (g.arg k):=by
   conv=>lhs;unfold vW
   rw [kT]
   rfl
  refine St out w (p.arg k).s _ (cT.lay _ _) (by omega) _ (λh' x=>?_)
  rw [hg]
  have q2:=Holds.top (i:=0) x rfl
  have q3:=Holds.top (i:=1) x rfl
  replace cT:=cT.over x
  (replace z:=z.aj x;replace q0:=q0.over x;replace q1:=q1.over x;rw [ao h'])
  simp only [aa,seval,fF,aH.val,aH.cells]
  repeat' ((first|((with_reducible apply bg) <;> intro _)|with_reducible refine tZ (λ_=>?_) (λ_=>?_)|((with_reducible apply bI);(· rfl))) <;> simp only [aa,seval,fF,iR,gL,ij,Am.one,iT,gX,gA,q2.lay,q3.lay,zub,BC])
  all_goals try first
   |((with_reducible refine hk _ _ _ z.au (λ_=>rfl) (λm hm=>?_))
     have rB:ql out (p.arg k) (g.arg k)=none:=by
      unfold ql
      rw [hg]
      first
       |rw [aE (by assumption),az (by assumption)]
       |rw [az (by simp [*]),aE (by assumption),az (by assumption)]
     have hn:ec l p g=none:=by
      rw [pR]
      exact Q5 (k:=k+1) (by rw [gd,rB]) (by omega)
     rw [hn] at hm
     cases hm)
   |(have rB:ql out (p.arg k) (g.arg k)=some out:=by
      unfold ql
      rw [hg]
      first
       |rw [aE (by assumption),aE (by assumption)]
       |rw [az (by simp [*]),aE (by assumption),aE (by assumption)]
     rw [hw]
     refine Ep z.au (λH z hO hI=>?_)
     (rw [ey];with_reducible refine bS (m:=_) ?_ ⟨k+1,out,w,_,rfl,z,⟨rfl,by omega,by omega,by rw [gd,rB],cT.mono hI,by omega,hO _ _ q0,hO _ _ q1⟩,bc⟩;omega))
  have rB:ql out (p.arg k) (g.arg k)=ua out (p.arg k).s (g.arg k):=by
   unfold ql
   rw [hg,az (by simp [*]),az (by simp [*])]
  refine zCR out w (p.arg k).s (g.arg k) _ (cT.lay _ _) (by omega) _ (λh' w2 e x Tm ye=>?_)
  (replace z:=z.aj x;replace q0:=q0.over x;replace q1:=q1.over x;rw [ao h'])
  have dn:∀ (h:Heap) (K:aG),aD (some w2) h K=K w2 h:=λ_ _=>rfl
  by_cases ny:e=0
  .have F6:(e == 0)=true:=by simpa using ny
   simp only [aa,seval,fF,dn,F6]
   repeat' (((with_reducible apply bI);(· rfl)) <;> simp only [aa,seval,fF])
   cases pc:ua out (p.arg k).s (g.arg k) with
   |none=>exact absurd ny (Tm pc)
   |some m =>
    have mF:=(ye m pc).2
    have hml:=zia pc
    rw [hw]
    (rw [ey];with_reducible refine bS (m:=_) ?_ ⟨k+1,m,w2,_,rfl,z,⟨rfl,by omega,by omega,by rw [gd,rB,pc],mF,by omega,q0,q1⟩,bc⟩;omega)
  .have F6:(e == 0)=false:=by simpa using ny
   simp only [aa,seval,fF,dn,F6]
   repeat' (((with_reducible apply bI);(· rfl)) <;> simp only [aa,seval,fF,BC])
   have hn:ec l p g=none:=by
    rw [pR]
    refine Q5 (k:=k+1) ?_ (by omega)
    rw [gd,rB]
    cases pc:ua out (p.arg k).s (g.arg k) with
    |none=>rfl
    |some m=>exact absurd (ye m pc).1 ny
   exact hk _ _ _ z.au (λ_=>rfl) (λm hm=>by rw [hn] at hm;cases hm)
 rcases hg:jC l (p.arg k).s with ⟨⟨tv,ts⟩,pb⟩
 simp only [aa,seval,fF]
 repeat' ((with_reducible refine zpb (by omega) rfl rfl ?_) <;> simp only [aa,seval,fF,iR,gL,ij,Am.one,iT,gX,gA,aH.val,aH.cells])
 refine St l v (p.arg k).s _ (hl.mono z.au.inc) (by omega) _ (λh' x=>?_)
 rw [hg]
 have q2:=Holds.top (i:=0) x rfl
 (replace z:=z.aj x;replace q0:=q0.over x;replace q1:=q1.over x;rw [ao h'])
 simp only [aa,seval,fF,aH.val,aH.cells]
 repeat' ((first|((with_reducible apply bg) <;> intro _)|with_reducible refine tZ (λ_=>?_) (λ_=>?_)) <;> simp only [aa,seval,fF,iR,gL,ij,Am.one,iT,gX,gA,q0.lay,q2.lay,Ve])
 all_goals first
  |((with_reducible refine hk _ _ _ z.au (λ_=>rfl) (λm hm=>?_))
    have hb:lH l (p.arg k)=true:=by (unfold lH;rw [hg];simp [*])
    have hn:ec l p g=none:=by
     unfold ec
     split
     .rfl
     .rw [aE ⟨k,by omega,by omega,hb⟩]
    rw [hn] at hm
    cases hm)
  |(have oF:∀ i,i < k+1->(i:Int) < p.n->lH l (p.arg i)=false:=by
     intro i hi aK
     by_cases ry:i=k
     .subst ry
      first|(exfalso;omega)|(unfold lH;rw [hg];simp [*])
     .exact yb i (by omega) aK
    rw [hw]
    refine Ep z.au (λH z hO _=>?_)
    (rw [aO];with_reducible refine bS (m:=_) ?_ ⟨k+1,_,rfl,z,⟨rfl,by omega,oF,hO _ _ q0,hO _ _ q1⟩,bc⟩;omega))
end Go.Proofs.YtkgojconmeeegaaGreatDoor
