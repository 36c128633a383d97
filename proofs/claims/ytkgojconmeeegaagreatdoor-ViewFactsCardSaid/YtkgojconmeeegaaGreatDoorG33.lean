/- The code of some functions, node by node, for simp. Written by a program (mkcode.py). No condition. -/
import Derived.Test.YtkgojconmeeegaaGreatDoorZQ0
set_option linter.unusedSimpArgs false
set_option linter.unusedVariables false
set_option maxRecDepth 100000
set_option maxHeartbeats 0
noncomputable section
namespace Go.Proofs.YtkgojconmeeegaaGreatDoor
open Go.Am Tryz
variable {l:List aB}
def N91:=bp f91
def x91:=PLift.up (by have c:=bq N91 f91;simp only [aI,f91,seval] at c;exact nd c <| nd @zBR <| nd @EW <| nd @HX <| nd @kx <| nd @mG <| nd @eC <| nd @ky <| @Xr)
theorem pH:type_of% x91.down:=x91.down
def N92:=bp f92
def x92:=PLift.up (by have c:=bq N92 f92;simp only [aI,f92,seval] at c;exact nd c <| nd @zBR <| nd @Fh <| nd @EW <| nd @JX <| nd @HY <| nd @Sh <| nd @yZ <| nd @vP <| nd @lx <| nd @G6 <| nd @eC <| nd @y5 <| @Xs)
theorem kh:type_of% x92.down:=x92.down
def KP:=bp f144
def PE:=PLift.up (by have c:=bq KP f144;simp only [aI,f144,seval] at c;exact nd c <| nd @EW <| nd @CZ <| nd @JY <| nd @kx <| nd @mG <| nd @el <| nd @eC <| nd @ky <| @zFu)
theorem fY:type_of% PE.down:=PE.down
def N93:=bp f93
def x93:=PLift.up (by have c:=bq N93 f93;simp only [aI,f93,seval] at c;exact nd c <| nd @zBR <| nd @VN <| nd @EW <| nd @U2 <| nd @CZ <| nd @y4 <| nd @Cj <| nd @el <| nd @Co <| nd @eC <| nd @Cr <| @Xt)
theorem qV:type_of% x93.down:=x93.down
def KO:=bp f143
def PD:=PLift.up (by have c:=bq KO f143;simp only [aI,f143,seval] at c;exact nd c <| nd @el <| nd @Co <| @zFt)
theorem L9:type_of% PD.down:=PD.down
def N94:=bp f94
def x94:=PLift.up (by have c:=bq N94 f94;simp only [aI,f94,seval] at c;exact nd c <| nd @Sg <| nd @zBs <| nd @U3 <| nd @U4 <| nd @Ck <| nd @Cl <| nd @lx <| nd @Cs <| nd @Ct <| @Xu)
theorem S6:type_of% x94.down:=x94.down
def KR:=bp f146
def PG:=PLift.up (by have c:=bq KR f146;simp only [aI,f146,seval] at c;exact nd c <| nd @EW <| nd @lR <| nd @fS <| @zFw)
theorem Be:type_of% PG.down:=PG.down
def Ll:=bp f184
def Qf:=PLift.up (by have c:=bq Ll f184;simp only [aI,f184,seval] at c;exact nd c <| nd @el <| nd @bP <| @zF6)
theorem Mk:type_of% Qf.down:=Qf.down
def Lm:=bp f185
def Qg:=PLift.up (by have c:=bq Lm f185;simp only [aI,f185,seval] at c;exact nd c <| nd @xr <| nd @iF <| nd @el <| nd @bP <| nd @lR <| nd @fS <| @zF7)
theorem pC:type_of% Qg.down:=Qg.down
def KT:=bp f148
def PI:=PLift.up (by have c:=bq KT f148;simp only [aI,f148,seval] at c;exact nd c <| nd @VJ <| nd @xr <| nd @HZ <| nd @H2 <| nd @iF <| nd @mG <| nd @bP <| nd @lR <| nd @fS <| @zFy)
theorem jL:type_of% PI.down:=PI.down
def Lp:=bp f188
def Qj:=PLift.up (by have c:=bq Lp f188;simp only [aI,f188,seval] at c;exact nd c <| nd @mG <| @zGb)
theorem Fm:type_of% Qj.down:=Qj.down
def N95:=bp f95
def x95:=PLift.up (by have c:=bq N95 f95;simp only [aI,f95,seval] at c;exact nd c <| nd @VO <| nd @L6 <| nd @EW <| nd @U3 <| nd @U4 <| nd @sR <| nd @U5 <| nd @Si <| nd @G4 <| nd @G5 <| nd @Ck <| nd @Cl <| nd @el <| nd @Oy <| nd @Oz <| nd @eC <| nd @Cs <| nd @Ct <| @Xv)
theorem lZ:type_of% x95.down:=x95.down
def KQ:=bp f145
def PF:=PLift.up (by have c:=bq KQ f145;simp only [aI,f145,seval] at c;exact nd c <| nd @HZ <| nd @H2 <| nd @el <| nd @bP <| nd @lR <| @zFv)
theorem Ma:type_of% PF.down:=PF.down
def KS:=bp f147
def PH:=PLift.up (by have c:=bq KS f147;simp only [aI,f147,seval] at c;exact nd c <| nd @Oy <| @zFx)
theorem Mb:type_of% PH.down:=PH.down
def KU:=bp f149
def PJ:=PLift.up (by have c:=bq KU f149;simp only [aI,f149,seval] at c;exact nd c <| nd @Si <| nd @U6 <| nd @el <| nd @bP <| nd @lR <| @zFz)
theorem Mc:type_of% PJ.down:=PJ.down
def N55:=bp f55
def x55:=PLift.up (by have c:=bq N55 f55;simp only [aI,f55,seval] at c;exact nd c <| nd @zES <| nd @zGZ <| nd @zG3 <| nd @el <| nd @zG6 <| @WW)
theorem Bo:type_of% x55.down:=x55.down
def Lo:=bp f187
def Qi:=PLift.up (by have c:=bq Lo f187;simp only [aI,f187,seval] at c;exact nd c <| @zGa)
theorem Fl:type_of% Qi.down:=Qi.down
def LG:=bp f211
def QF:=PLift.up (by have c:=bq LG f211;simp only [aI,f211,seval] at c;exact nd c <| nd @kx <| nd @eC <| nd @ky <| @zGu)
theorem tm:type_of% QF.down:=QF.down
theorem JU:aA.desc 198=some (.map 9 199):=by kernel_rfl
theorem vj:aA.desc 9=some .string:=by kernel_rfl
theorem zzh:aA.zero 199=some (.agg ⟨[]⟩):=by kernel_rfl
theorem zq6:od aA 199 []=some (.agg ⟨[]⟩):=by kernel_rfl
theorem zhP {T:bL} {t kt et:TypeId} {A w:Nat} {met:List aB} {a:aB} {h1:Heap} {bs:List bh} {K:aG} (m:fP Value.string h1 A met) (hd:T.desc t=some (.map kt et)) (hs:T.desc kt=some .string) (hz:T.zero et=some (.agg ⟨[]⟩)) (hK:K (.tuple #[.agg ⟨[]⟩,.bool (cq met a)]) (h1.lay bs w)):aD (CR T t (.map (some A)) (.string a) true (h1.lay bs w)) (h1.lay bs w) K :=
 zuP (kv:=Value.string) m (λ_=>rfl) hd (JW hs) hz (λhm=>by rw [dL.2 hm] at hK;exact hK) (λhm=>by rw [Bool.eq_false_iff.2 (mt dL.1 hm)] at hK;exact hK)
theorem znl {T:bL} {t kt et:TypeId} {A w:Nat} {met:List aB} {a:aB} {h1:Heap} {bs:List bh} {K:aG} (m:fP Value.string h1 A met) (hd:T.desc t=some (.map kt et)) (hs:T.desc kt=some .string) (hK:∀ h',fP Value.string h' A (met++[a])->fB A (h1.lay bs w) h'->K undef h'):iH (rT T t (.map (some A)) (.string a) (.agg ⟨[]⟩) (h1.lay bs w)) K :=
 zA7 (kv:=Value.string) m (λ_=>rfl) (λx=>zgH x) hd (JW hs) (λh' m2 c=>hK h' (m2.same (λb=>by rw [dG,oV,iq];exact Or.comm)) c)
theorem zsm (h:Heap) (l:List bh) (w i o:Nat) (v:ae) (hi:i < l.length):iS aA 199 (.pointer (some ⟨h.size+i,o,none⟩)) v (h.lay l w)=if v.cells.size=0 then sN l[i]? i o v.cells.toList h l w else none:=wi (by kernel_rfl) h l w i o v hi
theorem zAj (s:aB) (h:Heap) (cP:bl 1 h) (K:aG) (hk:∀ h',Ext h h'->K (.bool (qn s)) h'):Ok prog aA ov 141 [.string s] h K :=
 zm7 s h cP K (λg h' x=>by rw [cV.2 g] at hk;exact hk h' x) (λg h' x=>by rw [zpU g] at hk;exact hk h' x)
theorem zAi (s:aB) (h:Heap) (cP:bl 1 h) (K:aG) (hk:∀ h',Ext h h'->K (.bool (qn s)) h'):Ok prog aA ov 142 [.string s] h K :=
 zto s h cP K (λg h' x=>by rw [cV.2 g] at hk;exact hk h' x) (λg h' x=>by rw [zpU g] at hk;exact hk h' x)
theorem zjX (h:l.length < 1\/16 < l.length):HT l=4:=aE h
theorem zya (l:List aB) (p0 p1 p2 p5 p6:ae) (q b:Int) (h:Heap) (cP:bl 1 h) (hl:Sl aJ.str h p0 l) (K:aG) (hk:∀ h',Ext h h'->K (.int .i64 (HT l)) h'):Ok prog aA ov 91 [gC p0 p1 p2 p5 p6 q b] h K:=by
 rw [ao h]
 have z:=Ext.refl h
 have hle:=hl.le
 have dn:∀ (h:Heap) (K:aG),aD (some p0) h K=K p0 h:=λ_ _=>rfl
 have cO:=λ(hh:Heap)=>hl.bt cQ hh
 refine Ok.aq 47 (bm N91) ?_
 simp only [aa,seval,pH,jG,k6,dn,cO]
 refine bg (λh1=>?_) (λh1=>?_)
 .rw [zjX (.inl (by omega))] at hk
  simp only [aa,seval,pH]
  exact hk _ z.au
 simp only [aa,seval,pH]
 refine bg (λh2=>?_) (λh2=>?_)
 .rw [zjX (.inr (by omega))] at hk
  simp only [aa,seval,pH]
  exact hk _ z.au
 have B2:HT l=jb (λpre w=>jI [br (!qn w) 3,br (cq pre w) 5]) [] l:=az (by omega)
 rw [B2] at hk
 obtain ⟨F,hF⟩:∃ F:List aB->aB->Int,F=λpre w=>jI [br (!qn w) 3,br (cq pre w) 5]:=⟨_,rfl⟩
 rw [<- hF] at hk
 simp only [aa,seval,pH,Rj,k6,dn,cO]
 refine lg (λh' x hq=>?_)
 have q0:=hq 0 _ rfl
 have q1:=hq 1 _ rfl
 clear hq
 (replace z:=z.aj x;rw [ao h'])
 obtain ⟨M,hM⟩:∃ M,M=h.size+1:=⟨_,rfl⟩
 rw [<- hM] at q1
 rw [<- hM]
 clear q0
 obtain ⟨I1,aO⟩:∃ I:Nat->Env->Heap->Prop,I=(λn e h'=>∃ (i:Nat) (h1:Heap),h'=h1.lay [] h1.low/\Ext h h1/\(n=l.length - i/\i<=l.length/\fP Value.string h1 M (l.take i)/\jb F [] l=jb F (l.take i) (l.drop i))/\∃ J:Nat->ae,e=(jr J 0 4 (.map (some M)::jr J 5 16 (p0::.int .i64 l.length::.int .i64 i::jr J 24 24 ([]))))):=⟨_,rfl⟩
 refine cK I1 _ (by rw [aO];exact ⟨0,_,rfl,z,⟨rfl,by omega,fP.new q1,rfl⟩,bc⟩) ?_
 intro n e h' aK
 rw [aO] at aK
 obtain ⟨i,bD,rfl,z,hinv,J,rfl⟩:=aK
 clear q1
 obtain ⟨rfl,hi,q1,ko⟩:=hinv
 have hw:=dE i (by omega)
 simp only [aa,seval,pH]
 refine bg (λaP=>?_) (λaP=>?_)
 rotate_left
 .rw [ko,HA (by omega)] at hk
  simp only [aa,seval,pH]
  exact hk _ z.au
 obtain ⟨r,hr,bM⟩:=eb (l:=l) (i:=i) (by omega)
 rw [ko,uN bM] at hk
 have qv:F (l.take i) r=jI [br (!qn r) 3,br (cq (l.take i) r) 5]:=by rw [hF]
 simp only [aa,seval,pH]
 repeat' ((first|with_reducible refine oT (hl.mono z.inc) cQ mU (by omega) hr (λp hp=>?_)|with_reducible refine fo hp gU ?_) <;> simp only [aa,seval,pH])
 simp only [cR,seval,CL]
 refine zhP q1 JU vj zzh ?_
 simp only [aa,seval,pH]
 rw [Au]
 simp only [aa,seval,pH,iR,ij,iT,gX,zsm]
 refine zAj r _ ((cP.ext z).lay _ _) _ (λh' x=>?_)
 (replace z:=z.aj x;replace q1:=q1.over x;rw [ao h'])
 clear hp
 simp only [aa,seval,pH]
 (with_reducible apply bI);(· rfl)
 simp only [aa,seval,pH]
 refine oc _ _ _ _ (λh' f1 x r1=>?_)
 (replace z:=z.aj x;replace q1:=q1.over x;rw [ao h'])
 simp only [aa,seval,pH]
 refine oc _ _ _ _ (λh' f2 x r2=>?_)
 (replace z:=z.aj x;replace q1:=q1.over x;replace r1:=r1.over x;rw [ao h'])
 obtain ⟨g1,u1,v1,rfl⟩:=r1.1
 obtain ⟨g2,u2,v2,rfl⟩:=r2.1
 simp only [aa,seval,pH]
 refine Aw [.func g1 u1 v1,.func g2 u2 v2] [br (!qn r) 3,br (cq (l.take i) r) 5] _ _ (AG (i:=0) rfl rfl rfl (by simp)) (by simp) rfl (λi fv e h1 h2=>?_) _ (λh' x=>?_)
 .match i,h1,h2 with
  |0,h1,h2=>cases h1;cases h2;exact r1.lay _ _
  |1,h1,h2=>cases h1;cases h2;exact r2.lay _ _
 (replace z:=z.aj x;replace q1:=q1.over x;replace r1:=r1.over x;replace r2:=r2.over x;rw [ao h'])
 rw [<- qv]
 clear r1 r2
 simp only [aa,seval,pH]
 refine im (λba=>?_) (λheq=>?_)
 .rw [az ba] at hk
  simp only [aa,seval,pH]
  exact hk _ z.au
 rw [aE heq] at hk
 have FY:h.size<=M:=by omega
 simp only [aa,seval,pH,zq6,T8]
 refine znl q1 JU vj (λh3 q3 mb=>?_)
 replace z:=z.cx mb FY (by omega)
 rw [ao h3]
 simp only [aa,seval,pH]
 rw [hw]
 have nZ:l.take (i+1)=l.take i++[r]:=by rw [nT,bM];rfl
 rw [<- nZ] at q3
 (rw [aO];with_reducible refine bS (m:=_) ?_ ⟨i+1,_,rfl,z,⟨rfl,by omega,q3,by rw [ko,uN bM,aE heq]⟩,bc⟩;omega)
theorem zvu {l:List cX} (h:32 < l.length):Su l=4:=aE h
theorem zx7 (l:List cX) (p0 p1 p2 p5 p6:ae) (q b:Int) (h:Heap) (cP:bl 1 h) (hl:Sl aJ.pred h p1 l) (K:aG) (hk:∀ h',Ext h h'->K (.int .i64 (Su l)) h'):Ok prog aA ov 92 [gC p0 p1 p2 p5 p6 q b] h K:=by
 rw [ao h]
 have z:=Ext.refl h
 have hle:=hl.le
 have dn:∀ (h:Heap) (K:aG),aD (some p1) h K=K p1 h:=λ_ _=>rfl
 have gw:∀ (s:aB) (h:Heap) (K:aG),aD (some (.string s)) h K=K (.string s) h:=λ_ _ _=>rfl
 have cO:=λ(hh:Heap)=>hl.bt kj hh
 refine Ok.aq 53 (bm N92) ?_
 simp only [aa,seval,kh,jG,lU,dn,cO]
 refine bg (λh2=>?_) (λh2=>?_)
 .rw [zvu (by omega)] at hk
  simp only [aa,seval,kh]
  exact hk _ z.au
 have B2:Su l=jb (λpre x=>jI [br (!qn x.name) 3,br (cq (pre.map cX.name) x.name) 5,br (decide (x.arity < 0\/4 < x.arity)) 4]) [] l:=az (by omega)
 rw [B2] at hk
 obtain ⟨F,hF⟩:∃ F:List cX->cX->Int,F=λpre x=>jI [br (!qn x.name) 3,br (cq (pre.map cX.name) x.name) 5,br (decide (x.arity < 0\/4 < x.arity)) 4]:=⟨_,rfl⟩
 rw [<- hF] at hk
 simp only [aa,seval,kh,Rj,lU,dn,cO]
 refine lg (λh' x hq=>?_)
 have q0:=hq 0 _ rfl
 have q1:=hq 1 _ rfl
 clear hq
 (replace z:=z.aj x;rw [ao h'])
 obtain ⟨M,hM⟩:∃ M,M=h.size+1:=⟨_,rfl⟩
 rw [<- hM] at q1
 rw [<- hM]
 clear q0
 obtain ⟨I1,aO⟩:∃ I:Nat->Env->Heap->Prop,I=(λn e h'=>∃ (i:Nat) (h1:Heap),h'=h1.lay [] h1.low/\Ext h h1/\(n=l.length - i/\i<=l.length/\fP Value.string h1 M ((l.take i).map cX.name)/\jb F [] l=jb F (l.take i) (l.drop i))/\∃ J:Nat->ae,e=(jr J 0 3 (.map (some M)::jr J 4 11 (p1::.int .i64 l.length::.int .i64 i::jr J 18 36 ([]))))):=⟨_,rfl⟩
 refine cK I1 _ (by rw [aO];exact ⟨0,_,rfl,z,⟨rfl,by omega,fP.new q1,rfl⟩,bc⟩) ?_
 intro n e h' aK
 rw [aO] at aK
 obtain ⟨i,bD,rfl,z,hinv,J,rfl⟩:=aK
 clear q1
 obtain ⟨rfl,hi,q1,ko⟩:=hinv
 have hw:=dE i (by omega)
 simp only [aa,seval,kh]
 refine bg (λaP=>?_) (λaP=>?_)
 rotate_left
 .rw [ko,HA (by omega)] at hk
  simp only [aa,seval,kh]
  exact hk _ z.au
 obtain ⟨r,hr,bM⟩:=eb (l:=l) (i:=i) (by omega)
 rw [ko,uN bM] at hk
 have qv:F (l.take i) r=jI [br (!qn r.name) 3,br (cq ((l.take i).map cX.name) r.name) 5,br (decide (r.arity < 0\/4 < r.arity)) 4]:=by rw [hF]
 simp only [aa,seval,kh]
 repeat' ((first|with_reducible refine Sv (hl.mono z.inc) kj mH (by omega) hr (λp hp=>?_)|with_reducible refine G7 hp A8 mH ?_) <;> simp only [aa,seval,kh])
 simp only [aa,seval,kh,iR,gL,ij,Am.one,iT,gX,zEj,CL,gw]
 refine zhP q1 JU vj zzh ?_
 simp only [aa,seval,kh]
 rw [Au]
 simp only [aa,seval,kh,iR,ij,iT,gX,EM,zsm]
 refine lg (λh' x hq=>?_)
 have e0:=hq 0 _ rfl
 clear hq
 (replace z:=z.aj x;replace q1:=q1.over x;rw [ao h'])
 obtain ⟨E0,oE⟩:∃ E0,E0=bD.size+0:=⟨_,rfl⟩
 rw [<- oE] at e0
 rw [<- oE]
 clear hp
 with_reducible first|refine cZ (by simp only [kh]) z.au ?_
 simp only [aa,seval,kh,e0.lay,gw]
 refine zAi r.name _ ((cP.ext z).lay _ _) _ (λh' x=>?_)
 (((with_reducible refine di ?_ ?_ ?_);(· exact (by (simp only [dp]);have:=z.size;omega));(· exact x));replace z:=z.aj x;replace q1:=q1.over x;replace e0:=e0.over x;rw [ao h'])
 simp only [aa,seval,kh]
 (with_reducible apply bI);(· rfl)
 simp only [aa,seval,kh]
 refine oc _ _ _ _ (λh' f1 x r1=>?_)
 (((with_reducible refine di ?_ ?_ ?_);(· exact (by (simp only [dp]);have:=z.size;omega));(· exact x));replace z:=z.aj x;replace q1:=q1.over x;replace e0:=e0.over x;rw [ao h'])
 simp only [aa,seval,kh]
 refine oc _ _ _ _ (λh' f2 x r2=>?_)
 (((with_reducible refine di ?_ ?_ ?_);(· exact (by (simp only [dp]);have:=z.size;omega));(· exact x));replace z:=z.aj x;replace q1:=q1.over x;replace e0:=e0.over x;replace r1:=r1.over x;rw [ao h'])
 simp only [aa,seval,kh,e0.lay]
 refine bg (λc1=>?_) (λc1=>?_)
 .have uy:decide (r.arity < 0\/4 < r.arity)=true:=by simp [c1]
  rw [uy] at qv
  simp only [aa,seval,kh]
  refine oc _ _ _ _ (λh' f3 x r3=>?_)
  (((with_reducible refine di ?_ ?_ ?_);(· exact (by (simp only [dp]);have:=z.size;omega));(· exact x));replace z:=z.aj x;replace q1:=q1.over x;replace e0:=e0.over x;replace r1:=r1.over x;replace r2:=r2.over x;rw [ao h'])
  obtain ⟨g1,u1,v1,rfl⟩:=r1.1
  obtain ⟨g2,u2,v2,rfl⟩:=r2.1
  obtain ⟨g3,u3,v3,rfl⟩:=r3.1
  simp only [aa,seval,kh]
  refine tS (by have:=z.size;omega) (by omega) ?_
  simp only [aa,seval,kh]
  refine Aw [.func g1 u1 v1,.func g2 u2 v2,.func g3 u3 v3] [br (!qn r.name) 3,br (cq ((l.take i).map cX.name) r.name) 5,br true 4] _ _ (AG (i:=0) rfl rfl rfl (by simp)) (by simp) rfl (λi fv e h1 h2=>?_) _ (λh' x=>?_)
  .match i,h1,h2 with
   |0,h1,h2=>cases h1;cases h2;exact r1.lay _ _
   |1,h1,h2=>cases h1;cases h2;exact r2.lay _ _
   |2,h1,h2=>cases h1;cases h2;exact r3.lay _ _
  (((with_reducible refine di ?_ ?_ ?_);(· exact (by (simp only [dp]);have:=z.size;omega));(· exact x));replace z:=z.aj x;replace q1:=q1.over x;replace r1:=r1.over x;replace r2:=r2.over x;replace r3:=r3.over x;rw [ao h'])
  rw [<- qv]
  clear r1 r2 r3
  simp only [aa,seval,kh]
  ((with_reducible refine ⟨z.bZ.lay _ _,?_⟩);(intro _ h' zz x _);(simp only [bG,bu] at x);replace q1:=q1.over x;(replace z:=zz);(clear zz);rw [ao h'])
  simp only [aa,seval,kh]
  refine im (λba=>?_) (λheq=>?_)
  .rw [az ba] at hk
   simp only [aa,seval,kh]
   exact hk _ z.au
  .rw [heq] at qv
   have:=cd.1 qv.symm 4 (by simp [br])
   omega
 .have uy:decide (r.arity < 0\/4 < r.arity)=decide (4 < r.arity):=by simp [c1]
  rw [uy] at qv
  simp only [aa,seval,kh,e0.lay]
  repeat (rw [Au];simp only [aa,seval,kh])
  refine oc _ _ _ _ (λh' f3 x r3=>?_)
  (((with_reducible refine di ?_ ?_ ?_);(· exact (by (simp only [dp]);have:=z.size;omega));(· exact x));replace z:=z.aj x;replace q1:=q1.over x;replace e0:=e0.over x;replace r1:=r1.over x;replace r2:=r2.over x;rw [ao h'])
  obtain ⟨g1,u1,v1,rfl⟩:=r1.1
  obtain ⟨g2,u2,v2,rfl⟩:=r2.1
  obtain ⟨g3,u3,v3,rfl⟩:=r3.1
  simp only [aa,seval,kh]
  refine tS (by have:=z.size;omega) (by omega) ?_
  simp only [aa,seval,kh]
  refine Aw [.func g1 u1 v1,.func g2 u2 v2,.func g3 u3 v3] [br (!qn r.name) 3,br (cq ((l.take i).map cX.name) r.name) 5,br (decide (4 < r.arity)) 4] _ _ (AG (i:=0) rfl rfl rfl (by simp)) (by simp) rfl (λi fv e h1 h2=>?_) _ (λh' x=>?_)
  .match i,h1,h2 with
   |0,h1,h2=>cases h1;cases h2;exact r1.lay _ _
   |1,h1,h2=>cases h1;cases h2;exact r2.lay _ _
   |2,h1,h2=>cases h1;cases h2;exact r3.lay _ _
  (((with_reducible refine di ?_ ?_ ?_);(· exact (by (simp only [dp]);have:=z.size;omega));(· exact x));replace z:=z.aj x;replace q1:=q1.over x;replace e0:=e0.over x;replace r1:=r1.over x;replace r2:=r2.over x;replace r3:=r3.over x;rw [ao h'])
  rw [<- qv]
  clear r1 r2 r3
  simp only [aa,seval,kh]
  ((with_reducible refine ⟨z.bZ.lay _ _,?_⟩);(intro _ h' zz x _);(simp only [bG,bu] at x);replace q1:=q1.over x;replace e0:=e0.over x;(replace z:=zz);(clear zz);rw [ao h'])
  simp only [aa,seval,kh]
  refine im (λba=>?_) (λheq=>?_)
  .rw [az ba] at hk
   simp only [aa,seval,kh]
   exact hk _ z.au
  rw [aE heq] at hk
  have FY:h.size<=M:=by omega
  simp only [aa,seval,kh,e0.lay,gw,zq6,T8]
  refine znl q1 JU vj (λh3 q3 mb=>?_)
  replace z:=z.cx mb FY (by omega)
  rw [ao h3]
  simp only [aa,seval,kh]
  rw [hw]
  have nZ:(l.take (i+1)).map cX.name=(l.take i).map cX.name++[r.name]:=by rw [nT,bM];simp
  rw [<- nZ] at q3
  (rw [aO];with_reducible refine bS (m:=_) ?_ ⟨i+1,_,rfl,z,⟨rfl,by omega,q3,by rw [ko,uN bM,aE heq]⟩,bc⟩;omega)
theorem Jp {Z:Type} {r:aJ Z} {h:Heap} {v:ae} {l:List Z} (f:Sl r h v l):∃ a n c,v=.slice a n c:=by
 rcases f with ⟨rfl,_⟩|⟨A,o,c,row,u,ro,rfl,_⟩ <;> exact ⟨_,_,_,rfl⟩
theorem zAW {h:Heap} {v:ae} (f:Sl aJ.str h v l) (i:Nat) (hi:i<=l.length):∃ a n c,jY aA 22 v none (some (.int .i64 i)) none=some (.slice a n c)/\Sl aJ.str h (.slice a n c) (l.take i):=by
 obtain ⟨u1,g1,g2⟩:=f.sub (a:=0) (b:=i) (by decide) cQ mU (.inl ⟨rfl,rfl⟩) (.inr ⟨.i64,rfl⟩) (by omega) hi
 obtain ⟨a,n,c,rfl⟩:=Jp g2
 exact ⟨a,n,c,g1,by simpa using g2⟩
theorem zp1 {ps:List aB} {c:bB} (h:c.reads.length < 1\/16 < c.reads.length):wh ps c=4:=aE h
theorem zyb (ps:List aB) (c:bB) (v:ae) (p0 p1 p2 p5 p6:ae) (q b:Int) (h:Heap) (bn:(dw p0 p1 p2 p5 p6 q b).all Am.one=true) (h0:Sl aJ.str h p0 ps) (hs:ps.length<=1000) (hv:Sl aJ.str h v c.reads) (K:aG) (hk:∀ h',Ext h h'->K (.int .i64 (wh ps c)) h'):Ok prog aA ov 144 [gC p0 p1 p2 p5 p6 q b,.agg ⟨[.string c.who,v]⟩] h K:=by
 rw [ao h]
 have z:=Ext.refl h
 have hle:=hv.le
 have dn:∀ (h:Heap) (K:aG),aD (some v) h K=K v h:=λ_ _=>rfl
 have gw:∀ (s:aB) (h:Heap) (K:aG),aD (some (.string s)) h K=K (.string s) h:=λ_ _ _=>rfl
 have cO:=λ(hh:Heap)=>hv.bt cQ hh
 refine Ok.aq 47 (bm KP) ?_
 simp only [aa,seval,fY,jG,dn,cO]
 refine bg (λh1=>?_) (λh1=>?_)
 .rw [zp1 (.inl (by omega))] at hk
  simp only [aa,seval,fY]
  exact hk _ z.au
 simp only [aa,seval,fY]
 refine bg (λh2=>?_) (λh2=>?_)
 .rw [zp1 (.inr (by omega))] at hk
  simp only [aa,seval,fY]
  exact hk _ z.au
 have B2:wh ps c=jb (λpre w=>jI [br (!cq ps w) 6,br (decide (w=c.who)) 11,br (cq pre w) 5]) [] c.reads:=az (by omega)
 rw [B2] at hk
 obtain ⟨F,hF⟩:∃ F:List aB->aB->Int,F=λpre w=>jI [br (!cq ps w) 6,br (decide (w=c.who)) 11,br (cq pre w) 5]:=⟨_,rfl⟩
 rw [<- hF] at hk
 simp only [aa,seval,fY,dn,cO]
 refine lg (λh' x hq=>?_)
 have q0:=hq 0 _ rfl
 have q1:=hq 1 _ rfl
 clear hq
 (replace z:=z.aj x;rw [ao h'])
 obtain ⟨A0,dK⟩:∃ A0,A0=h.size+0:=⟨_,rfl⟩
 rw [<- dK] at q0
 rw [<- dK]
 obtain ⟨A1,me⟩:∃ A1,A1=h.size+1:=⟨_,rfl⟩
 rw [<- me] at q1
 rw [<- me]
 obtain ⟨I1,aO⟩:∃ I:Nat->Env->Heap->Prop,I=(λn e h'=>∃ (i:Nat) (h1:Heap),h'=h1.lay [] h1.low/\Ext h h1/\(n=c.reads.length - i/\i<=c.reads.length/\Holds h1 A0 (.row (dw p0 p1 p2 p5 p6 q b) 28 false)/\Holds h1 A1 (.row [.string c.who,v] 75 false)/\jb F [] c.reads=jb F (c.reads.take i) (c.reads.drop i))/\∃ J:Nat->ae,e=(jr J 0 2 (.pointer (some ⟨A0,0,none⟩)::.pointer (some ⟨A1,0,none⟩)::jr J 4 15 (v::.int .i64 c.reads.length::.int .i64 i::jr J 22 27 ([]))))):=⟨_,rfl⟩
 refine cK I1 _ (by rw [aO];exact ⟨0,_,rfl,z,⟨rfl,by omega,q0,q1,rfl⟩,bc⟩) ?_
 intro n e h' aK
 rw [aO] at aK
 obtain ⟨i,bD,rfl,z,hinv,J,rfl⟩:=aK
 clear q0 q1
 obtain ⟨rfl,hi,q0,q1,ko⟩:=hinv
 have hw:=dE i (by omega)
 simp only [aa,seval,fY]
 refine bg (λaP=>?_) (λaP=>?_)
 rotate_left
 .rw [ko,HA (by omega)] at hk
  simp only [aa,seval,fY]
  exact hk _ z.au
 obtain ⟨r,hr,bM⟩:=eb (l:=c.reads) (i:=i) (by omega)
 rw [ko,uN bM] at hk
 have qv:F (c.reads.take i) r=jI [br (!cq ps r) 6,br (decide (r=c.who)) 11,br (cq (c.reads.take i) r) 5]:=by rw [hF]
 obtain ⟨a,m,cc,g1,g2⟩:=zAW hv i hi
 have mT:∀ (h:Heap) (K:aG),aD (some (.slice a m cc)) h K=K (.slice a m cc) h:=λ_ _=>rfl
 simp only [aa,seval,fY]
 repeat' ((first|with_reducible refine oT (hv.mono z.inc) cQ mU (by omega) hr (λp hp=>?_)|with_reducible refine fo hp gU ?_) <;> simp only [aa,seval,fY])
 clear hp
 with_reducible first|refine cZ (by simp only [fY]) z.au ?_
 simp only [aa,seval,fY,q0.lay,↓fN,fw,eU]
 refine Q0 ps r _ _ _ _ _ _ _ _ ((h0.mono z.inc).lay _ _) hs _ (λh' x=>?_)
 (((with_reducible refine di ?_ ?_ ?_);(· exact (by (simp only [dp]);have:=z.size;omega));(· exact x));replace z:=z.aj x;replace q0:=q0.over x;replace q1:=q1.over x;rw [ao h'])
 simp only [aa,seval,fY]
 (with_reducible apply bI);(· rfl)
 simp only [aa,seval,fY]
 refine oc _ _ _ _ (λh' f1 x r1=>?_)
 (((with_reducible refine di ?_ ?_ ?_);(· exact (by (simp only [dp]);have:=z.size;omega));(· exact x));replace z:=z.aj x;replace q0:=q0.over x;replace q1:=q1.over x;rw [ao h'])
 simp only [aa,seval,fY,q1.lay,gw]
 rw [Au]
 simp only [aa,seval,fY]
 refine oc _ _ _ _ (λh' f2 x r2=>?_)
 (((with_reducible refine di ?_ ?_ ?_);(· exact (by (simp only [dp]);have:=z.size;omega));(· exact x));replace z:=z.aj x;replace q0:=q0.over x;replace q1:=q1.over x;replace r1:=r1.over x;rw [ao h'])
 simp only [aa,seval,fY,q1.lay,dn,g1,mT]
 refine Je (c.reads.take i) _ r _ ((g2.mono z.inc).lay _ _) (by rw [fj];omega) _ (λh' x=>?_)
 (((with_reducible refine di ?_ ?_ ?_);(· exact (by (simp only [dp]);have:=z.size;omega));(· exact x));replace z:=z.aj x;replace q0:=q0.over x;replace q1:=q1.over x;replace r1:=r1.over x;replace r2:=r2.over x;rw [ao h'])
 simp only [aa,seval,fY]
 refine oc _ _ _ _ (λh' f3 x r3=>?_)
 (((with_reducible refine di ?_ ?_ ?_);(· exact (by (simp only [dp]);have:=z.size;omega));(· exact x));replace z:=z.aj x;replace q0:=q0.over x;replace q1:=q1.over x;replace r1:=r1.over x;replace r2:=r2.over x;rw [ao h'])
 obtain ⟨k1,u1,v1,rfl⟩:=r1.1
 obtain ⟨k2,u2,v2,rfl⟩:=r2.1
 obtain ⟨k3,u3,v3,rfl⟩:=r3.1
 simp only [aa,seval,fY]
 refine tS (by have:=z.size;omega) (by omega) ?_
 simp only [aa,seval,fY]
 refine Aw [.func k1 u1 v1,.func k2 u2 v2,.func k3 u3 v3] [br (!cq ps r) 6,br (decide (r=c.who)) 11,br (cq (c.reads.take i) r) 5] _ _ (AG (i:=0) rfl rfl rfl (by simp)) (by simp) rfl (λi fv e h1 h2=>?_) _ (λh' x=>?_)
 .match i,h1,h2 with
  |0,h1,h2=>cases h1;cases h2;exact r1.lay _ _
  |1,h1,h2=>cases h1;cases h2;exact r2.lay _ _
  |2,h1,h2=>cases h1;cases h2;exact r3.lay _ _
 (((with_reducible refine di ?_ ?_ ?_);(· exact (by (simp only [dp]);have:=z.size;omega));(· exact x));replace z:=z.aj x;replace q0:=q0.over x;replace q1:=q1.over x;replace r1:=r1.over x;replace r2:=r2.over x;replace r3:=r3.over x;rw [ao h'])
 rw [<- qv]
 clear r1 r2 r3
 simp only [aa,seval,fY]
 ((with_reducible refine ⟨z.bZ.lay _ _,?_⟩);(intro _ h' zz x _);(simp only [bG,bu] at x);replace q0:=q0.over x;replace q1:=q1.over x;(replace z:=zz);(clear zz);rw [ao h'])
 simp only [aa,seval,fY]
 refine im (λba=>?_) (λheq=>?_)
 .rw [az ba] at hk
  simp only [aa,seval,fY]
  exact hk _ z.au
 rw [aE heq] at hk
 simp only [aa,seval,fY]
 rw [hw]
 (rw [aO];with_reducible refine bS (m:=_) ?_ ⟨i+1,_,rfl,z,⟨rfl,by omega,q0,q1,by rw [ko,uN bM,aE heq]⟩,bc⟩;omega)
theorem zu3 (ps:List aB) (c:bB) (v:ae) (p0 p1 p2 p5 p6:ae) (q b:Int) (A B:Nat) (h:Heap) (bn:(dw p0 p1 p2 p5 p6 q b).all Am.one=true) (h0:Sl aJ.str h p0 ps) (hs:ps.length<=1000) (hv:Sl aJ.str h v c.reads) (q0:Holds h A (.row (dw p0 p1 p2 p5 p6 q b) 28 false)) (q1:Holds h B (.row [.string c.who,v] 75 false)) (K:aG) (hk:∀ h',Ext h h'->K (.int .i64 (wh ps c)) h'):Ok prog aA ov 143 [.pointer (some ⟨A,0,none⟩),.pointer (some ⟨B,0,none⟩)] h K:=by
 rw [ao h]
 have z:=Ext.refl h
 refine Ok.aq 4 (bm KO) ?_
 simp only [aa,seval,L9,q0.lay,q1.lay,↓fN,fw,eU]
 refine zyb ps c v _ _ _ _ _ _ _ _ bn (h0.lay _ _) hs (hv.lay _ _) _ (λh' x=>?_)
 (replace z:=z.aj x;rw [ao h'])
 simp only [aa,seval,L9]
 exact hk _ z.au
theorem zHf (h:Heap) (l:List bh) (w i o:Nat) (v:ae) (hi:i < l.length):iS aA 75 (.pointer (some ⟨h.size+i,o,none⟩)) v (h.lay l w)=if v.cells.size=2 then sN l[i]? i o v.cells.toList h l w else none:=wi kB h l w i o v hi
theorem zu5 (d:aw) (p0 p1 p2 p5 p6:ae) (q b:Int) (h:Heap) (bn:(dw p0 p1 p2 p5 p6 q b).all Am.one=true) (h0:Sl aJ.str h p0 d.ah) (h2:Sl aJ.clear h p2 d.aU) (hs:d.ah.length<=1000) (gr:d.aU.length<=1000) (K:aG) (hk:∀ h',Ext h h'->K (.int .i64 (HN d.ah d.aU)) h'):Ok prog aA ov 93 [gC p0 p1 p2 p5 p6 q b] h K:=by
 rw [ao h]
 have z:=Ext.refl h
 have dn:∀ (h:Heap) (K:aG),aD (some p2) h K=K p2 h:=λ_ _=>rfl
 have gw:∀ (s:aB) (h:Heap) (K:aG),aD (some (.string s)) h K=K (.string s) h:=λ_ _ _=>rfl
 have cO:=λ(hh:Heap)=>h2.bt kl hh
 obtain ⟨F,hF⟩:∃ F:List bB->bB->Int,F=λpre c=>jI [br (!cq d.ah c.who) 6,br (cq (pre.map bB.who) c.who) 5,wh d.ah c]:=⟨_,rfl⟩
 have B2:HN d.ah d.aU=jb F [] d.aU:=by rw [hF];rfl
 rw [B2] at hk
 refine Ok.aq 42 (bm N93) ?_
 simp only [aa,seval,qV,Rj,jG,oO,dn,cO]
 refine lg (λh' x hq=>?_)
 have q0:=hq 0 _ rfl
 have q1:=hq 1 _ rfl
 clear hq
 (replace z:=z.aj x;rw [ao h'])
 obtain ⟨A0,dK⟩:∃ A0,A0=h.size+0:=⟨_,rfl⟩
 rw [<- dK] at q0
 rw [<- dK]
 obtain ⟨M,hM⟩:∃ M,M=h.size+1:=⟨_,rfl⟩
 rw [<- hM] at q1
 rw [<- hM]
 have hAM:A0≠M:=by omega
 obtain ⟨I1,aO⟩:∃ I:Nat->Env->Heap->Prop,I=(λn e h'=>∃ (i:Nat) (h1:Heap),h'=h1.lay [] h1.low/\Ext h h1/\(n=d.aU.length - i/\i<=d.aU.length/\Holds h1 A0 (.row (dw p0 p1 p2 p5 p6 q b) 28 false)/\fP Value.string h1 M ((d.aU.take i).map bB.who)/\jb F [] d.aU=jb F (d.aU.take i) (d.aU.drop i))/\∃ J:Nat->ae,e=(J 0::.pointer (some ⟨A0,0,none⟩)::J 2::.map (some M)::jr J 4 7 (p2::.int .i64 d.aU.length::.int .i64 i::jr J 14 29 ([])))):=⟨_,rfl⟩
 refine cK I1 _ (by rw [aO];exact ⟨0,_,rfl,z,⟨rfl,by omega,q0,fP.new q1,rfl⟩,bc⟩) ?_
 intro n e h' aK
 rw [aO] at aK
 obtain ⟨i,bD,rfl,z,hinv,J,rfl⟩:=aK
 clear q0 q1
 obtain ⟨rfl,hi,q0,q1,ko⟩:=hinv
 have hw:=dE i (by omega)
 simp only [aa,seval,qV]
 refine bg (λaP=>?_) (λaP=>?_)
 rotate_left
 .rw [ko,HA (by omega)] at hk
  simp only [aa,seval,qV]
  exact hk _ z.au
 obtain ⟨r,hr,bM⟩:=eb (l:=d.aU) (i:=i) (by omega)
 rw [ko,uN bM] at hk
 have qv:F (d.aU.take i) r=jI [br (!cq d.ah r.who) 6,br (cq ((d.aU.take i).map bB.who) r.who) 5,wh d.ah r]:=by rw [hF]
 simp only [aa,seval,qV]
 refine CU (h2.mono z.inc) kl kB (by omega) hr (λp v hv hp=>?_)
 have DT:Am.one v=true:=hv.one
 obtain ⟨av,nv,cv,rfl⟩:=Jp hv
 repeat' (first|simp only [aa,seval,qV]|with_reducible refine G7 hp xq kB ?_)
 simp only [aa,seval,qV,iR,gL,ij,Am.one,iT,gX,zHf,CL,gw]
 refine zhP q1 JU vj zzh ?_
 simp only [aa,seval,qV]
 rw [Au]
 simp only [aa,seval,qV,iR,ij,iT,gX,EM,zsm]
 clear hp
 simp only [aa,seval,qV,q0.lay,gw,↓fN,fw,eU]
 refine Q0 d.ah r.who _ _ _ _ _ _ _ _ ((h0.mono z.inc).lay _ _) hs _ (λh' x=>?_)
 have e0:=Holds.top (i:=0) x rfl
 (replace z:=z.aj x;replace q0:=q0.over x;replace q1:=q1.over x;replace hv:=hv.over x;rw [ao h'])
 obtain ⟨E0,oE⟩:∃ E0,E0=bD.size+0:=⟨_,rfl⟩
 rw [<- oE] at e0
 rw [<- oE]
 simp only [aa,seval,qV]
 (with_reducible apply bI);(· rfl)
 simp only [aa,seval,qV]
 refine oc _ _ _ _ (λh' f1 x r1=>?_)
 (replace z:=z.aj x;replace q0:=q0.over x;replace q1:=q1.over x;replace e0:=e0.over x;replace hv:=hv.over x;rw [ao h'])
 simp only [aa,seval,qV]
 refine oc _ _ _ _ (λh' f2 x r2=>?_)
 (replace z:=z.aj x;replace q0:=q0.over x;replace q1:=q1.over x;replace e0:=e0.over x;replace hv:=hv.over x;replace r1:=r1.over x;rw [ao h'])
 have r3:ft h' (.func (.func 143) ⟨[]⟩ ⟨[.pointer (some ⟨A0,0,none⟩),.pointer (some ⟨E0,0,none⟩)]⟩) (wh d.ah r):=⟨⟨_,_,_,rfl⟩,λhc K2 y gp=>by
  rw [uM]
  exact zu3 d.ah r _ _ _ _ _ _ _ _ A0 E0 hc bn ((h0.mono z.inc).mono y.all) hs (hv.mono y.all) (Holds.dR q0 y) (Holds.dR e0 y) K2 gp⟩
 obtain ⟨k1,u1,v1,rfl⟩:=r1.1
 obtain ⟨k2,u2,v2,rfl⟩:=r2.1
 simp only [aa,seval,qV]
 refine Aw [.func k1 u1 v1,.func k2 u2 v2,.func (.func 143) ⟨[]⟩ ⟨[.pointer (some ⟨A0,0,none⟩),.pointer (some ⟨E0,0,none⟩)]⟩] [br (!cq d.ah r.who) 6,br (cq ((d.aU.take i).map bB.who) r.who) 5,wh d.ah r] _ _ (AG (i:=0) rfl rfl rfl (by simp)) (by simp) rfl (λi fv e h1 h2=>?_) _ (λh' x=>?_)
 .match i,h1,h2 with
  |0,h1,h2=>cases h1;cases h2;exact r1.lay _ _
  |1,h1,h2=>cases h1;cases h2;exact r2.lay _ _
  |2,h1,h2=>cases h1;cases h2;exact r3.lay _ _
 (replace z:=z.aj x;replace q0:=q0.over x;replace q1:=q1.over x;replace e0:=e0.over x;replace hv:=hv.over x;replace r1:=r1.over x;replace r2:=r2.over x;rw [ao h'])
 rw [<- qv]
 clear r1 r2 r3
 simp only [aa,seval,qV]
 refine im (λba=>?_) (λheq=>?_)
 .rw [az ba] at hk
  simp only [aa,seval,qV]
  exact hk _ z.au
 rw [aE heq] at hk
 have FY:h.size<=M:=by omega
 simp only [aa,seval,qV,e0.lay,gw,zq6,T8]
 refine znl q1 JU vj (λh3 q3 mb=>?_)
 replace z:=z.cx mb FY (by omega)
 replace q0:=q0.bj mb hAM
 rw [ao h3]
 simp only [aa,seval,qV]
 rw [hw]
 have nZ:(d.aU.take (i+1)).map bB.who=(d.aU.take i).map bB.who++[r.who]:=by rw [nT,bM];simp
 rw [<- nZ] at q3
 (rw [aO];with_reducible refine bS (m:=_) ?_ ⟨i+1,_,rfl,z,⟨rfl,by omega,q0,q3,by rw [ko,uN bM,aE heq]⟩,bc⟩;omega)
theorem zqc (a:ak):a.val.cells.size=11:=rfl
theorem zpl (a:ak):a.cells.length=11:=rfl
theorem zpN (a:ak):a.cells.all Am.one=true:=rfl
theorem zrQ {d:aw} (h:d.iO < 0\/1000 < d.iO\/d.fE < 1\/1048576 < d.fE\/64 < d.rules.length+d.bO.length):HE d=br true 4:=by
 unfold HE
 congr 1
 simp only [qt,gY]
 omega
theorem zpv {d:aw} (h:¬ (d.iO < 0\/1000 < d.iO\/d.fE < 1\/1048576 < d.fE\/64 < d.rules.length+d.bO.length)):HE d=br false 4:=by
 unfold HE
 congr 1
 simp only [Bool.or_eq_false_iff,decide_eq_false_iff_not]
 omega
theorem zrZ (d:aw) (p0 p1 p2 p5 p6:ae) (q b:Int) (h:Heap) (hq:d.iO=q) (hb:d.fE=b) (h5:Sl aJ.clause h p5 d.rules) (h6:Sl aJ.q9 h p6 d.bO) (Ag:d.rules.length<=1000) (hs6:d.bO.length<=1000) (K:aG) (hk:∀ h',Ext h h'->K (.int .i64 (HE d)) h'):Ok prog aA ov 94 [gC p0 p1 p2 p5 p6 q b] h K:=by
 rw [ao h]
 have z:=Ext.refl h
 have tK:∀ (h:Heap) (K:aG),aD (some p5) h K=K p5 h:=λ_ _=>rfl
 have uI:∀ (h:Heap) (K:aG),aD (some p6) h K=K p6 h:=λ_ _=>rfl
 have BS:=λ(hh:Heap)=>h5.bt ni hh
 have yw:=λ(hh:Heap)=>h6.bt oC hh
 have hw:IntKind.i64.wrap ((d.rules.length:Int)+(d.bO.length:Int))=((d.rules.length+d.bO.length:Nat):Int):=by rw [wrap_i64 (by omega) (by omega)];omega
 refine Ok.aq 38 (bm N94) ?_
 simp only [aa,seval,S6,jG,Ha]
 repeat' ((with_reducible refine bg (λ_=>?_) (λ_=>?_)) <;> simp only [aa,seval,S6,Ha,OS,oP,qe,tK,uI,BS,yw,hw])
 all_goals
  refine oc _ _ _ _ (λh' f1 x r1=>?_)
  (replace z:=z.aj x;rw [ao h'])
  obtain ⟨k1,u1,v1,rfl⟩:=r1.1
  simp only [aa,seval,S6]
  refine r1.2 _ _ (aQ.lay _ _ _ _) (λh' x=>?_)
  (replace z:=z.aj x;rw [ao h'])
  first
   |rw [zrQ (by omega)] at hk
   |rw [zpv (by omega)] at hk
  simp only [aa,seval,S6]
  exact hk _ z.au
theorem zu0 (d:aw) (a:ak) (p0 p1 p2 p5 p6:ae) (q b:Int) (A B:Nat) (h:Heap) (cP:bl 1 h) (bn:(dw p0 p1 p2 p5 p6 q b).all Am.one=true) (h0:Sl aJ.str h p0 d.ah) (h1:Sl aJ.pred h p1 d.cp) (hs:d.ah.length<=1000) (q0:Holds h A (.row (dw p0 p1 p2 p5 p6 q b) 28 false)) (q1:Holds h B (.row a.cells 34 false)) (K:aG) (hk:∀ h',Ext h h'->K (.int .i64 (r6 d a)) h'):Ok prog aA ov 184 [.pointer (some ⟨A,0,none⟩),.pointer (some ⟨B,0,none⟩)] h K:=by
 rw [ao h]
 have z:=Ext.refl h
 refine Ok.aq 4 (bm Ll) ?_
 simp only [aa,seval,Mk,q0.lay,q1.lay,↓fN,fw,eU,↓dW,dO,da]
 refine zm4 d a _ _ _ _ _ _ _ _ (cP.lay _ _) bn (h0.lay _ _) (h1.lay _ _) hs _ (λh' x=>?_)
 (replace z:=z.aj x;rw [ao h'])
 simp only [aa,seval,Mk]
 exact hk _ z.au
theorem zu1 (d:aw) (l:aW) (v:ae) (p0 p1 p2 p5 p6:ae) (q b:Int) (A B:Nat) (h:Heap) (cP:bl 1 h) (bn:(dw p0 p1 p2 p5 p6 q b).all Am.one=true) (h0:Sl aJ.str h p0 d.ah) (h1:Sl aJ.pred h p1 d.cp) (hs:d.ah.length<=1000) (hl:Sl aJ.atom h v l) (gr:l.length<=1000) (q0:Holds h A (.row (dw p0 p1 p2 p5 p6 q b) 28 false)) (q1:Holds h B (.row [v] 44 false)) (K:aG) (hk:∀ h',Ext h h'->K (.int .i64 (SB d l)) h'):Ok prog aA ov 185 [.pointer (some ⟨B,0,none⟩),.pointer (some ⟨A,0,none⟩)] h K:=by
 rw [ao h]
 have z:=Ext.refl h
 have dn:∀ (h:Heap) (K:aG),aD (some v) h K=K v h:=λ_ _=>rfl
 have cO:=λ(hh:Heap)=>hl.bt bC hh
 obtain ⟨F,hF⟩:∃ F:aW->ak->Int,F=λ_ a=>r6 d a:=⟨_,rfl⟩
 have B2:SB d l=jb F [] l:=by rw [hF];rfl
 rw [B2] at hk
 refine Ok.aq 17 (bm Lm) ?_
 simp only [aa,seval,pC,q1.lay,dn,cO]
 obtain ⟨I1,aO⟩:∃ I:Nat->Env->Heap->Prop,I=(λn e h'=>∃ (i:Nat) (h1:Heap),h'=h1.lay [] h1.low/\Ext h h1/\(n=l.length - i/\i<=l.length/\Holds h1 A (.row (dw p0 p1 p2 p5 p6 q b) 28 false)/\jb F [] l=jb F (l.take i) (l.drop i))/\∃ J:Nat->ae,e=(J 0::.pointer (some ⟨A,0,none⟩)::jr J 2 4 (v::.int .i64 l.length::.int .i64 i::jr J 9 10 ([])))):=⟨_,rfl⟩
 refine cK I1 _ (by rw [aO];exact ⟨0,_,rfl,z,⟨rfl,by omega,q0,rfl⟩,bc⟩) ?_
 intro n e h' aK
 rw [aO] at aK
 obtain ⟨i,bD,rfl,z,hinv,J,rfl⟩:=aK
 clear q0
 obtain ⟨rfl,hi,q0,ko⟩:=hinv
 have hw:=dE i (by omega)
 simp only [aa,seval,pC]
 refine bg (λaP=>?_) (λaP=>?_)
 rotate_left
 .rw [ko,HA (by omega)] at hk
  simp only [aa,seval,pC]
  exact hk _ z.au
 obtain ⟨r,hr,bM⟩:=eb (l:=l) (i:=i) (by omega)
 rw [ko,uN bM] at hk
 have qv:F (l.take i) r=r6 d r:=by rw [hF]
 simp only [aa,seval,pC]
 repeat' ((first|with_reducible refine mM (hl.mono z.inc) bC bE (by omega) hr (λp hp=>?_)|with_reducible refine ly hp eK bE ?_) <;> simp only [aa,seval,pC])
 clear hp
 simp only [aa,seval,pC,iR,iT,gX,vQ,zqc,zpl,zpN,q0.lay,↓fN,fw,eU,fA,↓dW,dO,da]
 refine zm4 d r _ _ _ _ _ _ _ _ ((cP.ext z).lay _ _) bn ((h0.mono z.inc).lay _ _) ((h1.mono z.inc).lay _ _) hs _ (λh' x=>?_)
 (replace z:=z.aj x;replace q0:=q0.over x;rw [ao h'])
 rw [<- qv]
 simp only [aa,seval,pC]
 refine im (λba=>?_) (λheq=>?_)
 .rw [az ba] at hk
  simp only [aa,seval,pC]
  exact hk _ z.au
 rw [aE heq] at hk
 simp only [aa,seval,pC]
 rw [hw]
 (rw [aO];with_reducible refine bS (m:=_) ?_ ⟨i+1,_,rfl,z,⟨rfl,by omega,q0,by rw [ko,uN bM,aE heq]⟩,bc⟩;omega)
theorem zlK (d:aw) (a:ak) (l:aW) (v:ae) (p0 p1 p2 p5 p6:ae) (q b:Int) (h:Heap) (cP:bl 1 h) (bn:(dw p0 p1 p2 p5 p6 q b).all Am.one=true) (h0:Sl aJ.str h p0 d.ah) (h1:Sl aJ.pred h p1 d.cp) (hs:d.ah.length<=1000) (hl:Sl aJ.atom h v l) (gr:l.length<=1000) (K:aG) (hk:∀ h',Ext h h'->K (.int .i64 (Az d a l)) h'):Ok prog aA ov 146 [gC p0 p1 p2 p5 p6 q b,a.val,v] h K:=by
 rw [ao h]
 have z:=Ext.refl h
 have dn:∀ (h:Heap) (K:aG),aD (some v) h K=K v h:=λ_ _=>rfl
 have cO:=λ(hh:Heap)=>hl.bt bC hh
 obtain ⟨av,nv,cv,rfl⟩:=Jp hl
 refine Ok.aq 12 (bm KR) ?_
 simp only [aa,seval,Be,jG,fA,dn,cO]
 rw [Au]
 simp only [aa,seval,Be]
 refine oc _ _ _ _ (λh' f1 x r1=>?_)
 have q0:=Holds.top (i:=0) x rfl
 have q1:=Holds.top (i:=1) x rfl
 have q2:=Holds.top (i:=2) x rfl
 (replace z:=z.aj x;rw [ao h'])
 obtain ⟨A0,dK⟩:∃ A0,A0=h.size+0:=⟨_,rfl⟩
 rw [<- dK] at q0
 rw [<- dK]
 obtain ⟨A1,me⟩:∃ A1,A1=h.size+1:=⟨_,rfl⟩
 rw [<- me] at q1
 rw [<- me]
 obtain ⟨A2,ra⟩:∃ A2,A2=h.size+2:=⟨_,rfl⟩
 rw [<- ra] at q2
 rw [<- ra]
 have r0:ft h' (.func (.func 184) ⟨[]⟩ ⟨[.pointer (some ⟨A0,0,none⟩),.pointer (some ⟨A1,0,none⟩)]⟩) (r6 d a):=⟨⟨_,_,_,rfl⟩,λhc K2 y gp=>by
  rw [uM]
  exact zu0 d a _ _ _ _ _ _ _ A0 A1 hc (Holds.dR (cP.ext z) y) bn ((h0.mono z.inc).mono y.all) ((h1.mono z.inc).mono y.all) hs (Holds.dR q0 y) (Holds.dR q1 y) K2 gp⟩
 have r2:ft h' (.func (.func 185) ⟨[]⟩ ⟨[.pointer (some ⟨A2,0,none⟩),.pointer (some ⟨A0,0,none⟩)]⟩) (SB d l):=⟨⟨_,_,_,rfl⟩,λhc K2 y gp=>by
  rw [uM]
  exact zu1 d l _ _ _ _ _ _ _ _ A0 A2 hc (Holds.dR (cP.ext z) y) bn ((h0.mono z.inc).mono y.all) ((h1.mono z.inc).mono y.all) hs ((hl.mono z.inc).mono y.all) gr (Holds.dR q0 y) (Holds.dR q2 y) K2 gp⟩
 obtain ⟨k1,u1,v1,rfl⟩:=r1.1
 simp only [aa,seval,Be]
 refine Aw [.func (.func 184) ⟨[]⟩ ⟨[.pointer (some ⟨A0,0,none⟩),.pointer (some ⟨A1,0,none⟩)]⟩,.func k1 u1 v1,.func (.func 185) ⟨[]⟩ ⟨[.pointer (some ⟨A2,0,none⟩),.pointer (some ⟨A0,0,none⟩)]⟩] [r6 d a,br (decide (6 < l.length)) 4,SB d l] _ _ (AG (i:=0) rfl rfl rfl (by simp)) (by simp) rfl (λi fv e h1 h2=>?_) _ (λh' x=>?_)
 .match i,h1,h2 with
  |0,h1,h2=>cases h1;cases h2;exact r0.lay _ _
  |1,h1,h2 =>
   cases h1;cases h2
   have e:decide (6 < l.length)=decide ((l.length:Int) > 6):=by rw [Bool.eq_iff_iff,decide_eq_true_iff,decide_eq_true_iff];omega
   rw [e]
   exact r1.lay _ _
  |2,h1,h2=>cases h1;cases h2;exact r2.lay _ _
 (replace z:=z.aj x;replace q0:=q0.over x;replace q1:=q1.over x;replace q2:=q2.over x;replace r1:=r1.over x;rw [ao h'])
 simp only [aa,seval,Be]
 exact hk _ z.au
theorem zsb (a:ak) (v:ae):(a.cells++[v])[11]? = some v:=rfl
theorem zEd (a:ak) (v:ae):cut (a.cells++[v]) 0 11=some a.cells:=rfl
theorem zHh:rW aA 22 22=true:=by kernel_rfl
theorem zpF (l:List aB) (v fv:ae) (pr:aB->Bool) (h:Heap) (hl:Sl aJ.str h v l) (hs:l.length<=1000) (yH:∀ (x:aB) (hc:Heap) (K:aG),Ext h hc->(∀ h',Ext hc h'->K (.bool (pr x)) h')->pw prog aA ov [.string x] hc K fv) (K:aG)
 (hk:∀ h',Ext h h'->K (.int .i64 (jz pr l)) h'):Ok prog aA ov 211 [v,fv] h K:=by
 rw [ao h]
 have z:=Ext.refl h
 have cO:=λ(hh:Heap)=>hl.bt cQ hh
 refine Ok.aq 17 (bm LG) ?_
 simp only [aa,seval,tm,cO]
 obtain ⟨I1,aO⟩:∃ I:Nat->Env->Heap->Prop,I=(λn e h'=>∃ (i:Nat) (h1:Heap),h'=h1.lay [] h1.low/\Ext h h1/\(n=l.length - i/\i<=l.length/\∀ x∈l.take i,pr x=false)/\∃ J:Nat->ae,e=(v::fv::jr J 2 5 (.int .i64 l.length::.int .i64 i::jr J 9 10 ([])))):=⟨_,rfl⟩
 refine cK I1 _ (by rw [aO];exact ⟨0,_,rfl,z,⟨rfl,by omega,by simp⟩,bc⟩) ?_
 intro n e h' aK
 rw [aO] at aK
 obtain ⟨i,bD,rfl,z,hinv,J,rfl⟩:=aK
 obtain ⟨rfl,hi,aC⟩:=hinv
 have hw:=dE i (by omega)
 simp only [aa,seval,tm]
 refine bg (λaP=>?_) (λaP=>?_)
 rotate_left
 .rw [fX (by omega)] at aC
  have:=HC aC
  rw [this] at hk
  simp only [aa,seval,tm]
  exact hk _ z.au
 obtain ⟨r,hr,bM⟩:=eb (l:=l) (i:=i) (by omega)
 simp only [aa,seval,tm]
 repeat' ((first|with_reducible refine oT (hl.mono z.inc) cQ mU (by omega) hr (λp hp=>?_)|with_reducible refine fo hp gU ?_) <;> simp only [aa,seval,tm])
 refine yH _ _ _ z.au (λh' x=>?_)
 (replace z:=z.aj x;rw [ao h'])
 clear hp
 cases hx:pr r
 rotate_left
 .simp only [aa,seval,tm]
  have:=Hw bM aC hx
  rw [this] at hk
  exact hk _ z.au
 .simp only [aa,seval,tm]
  rw [hw]
  (rw [aO];with_reducible refine bS (m:=_) ?_ ⟨i+1,_,rfl,z,⟨rfl,by omega,mL (i:=i) (P:=λx:aB=>pr x=false) bM aC hx⟩,bc⟩;omega)
theorem zjJ (l:List aB) (v fv:ae) (pr:aB->Bool) (h:Heap) (hl:Sl aJ.str h v l) (hs:l.length<=1000) (yH:∀ (x:aB) (hc:Heap) (K:aG),Ext h hc->(∀ h',Ext hc h'->K (.bool (pr x)) h')->pw prog aA ov [.string x] hc K fv) (K:aG)
 (hk:∀ h',Ext h h'->K (.bool (l.any pr)) h'):Ok prog aA ov 187 [v,fv] h K:=by
 refine Ok.aq 7 (bm Lo) ?_
 simp only [aa,seval,Fl]
 refine zpF l v fv pr h hl hs yH _ (λh' x=>?_)
 simp only [aa,seval,Fl,RV]
 refine tZ (λhh=>?_) (λhh=>?_)
 all_goals
  simp only [aa,seval,Fl]
  rw [hh] at hk
  exact hk _ x
theorem zvi (l:List aB) (s:aB) (w:ae) (C:Nat) (h:Heap) (q:Holds h C (.row [w] 22 false)) (hl:Sl aJ.str h w l) (hs:l.length<=1000) (K:aG) (hk:∀ h',Ext h h'->K (.bool (!cq l s)) h'):Ok prog aA ov 188 [.string s,.pointer (some ⟨C,0,none⟩)] h K:=by
 rw [ao h]
 have z:=Ext.refl h
 have mT:∀ (h:Heap) (K:aG),aD (some w) h K=K w h:=λ_ _=>rfl
 refine Ok.aq 6 (bm Lp) ?_
 simp only [aa,seval,Fm,q.lay,mT]
 refine Je l w s _ (hl.lay _ _) hs _ (λh' x=>?_)
 (replace z:=z.aj x;rw [ao h'])
 simp only [aa,seval,Fm]
 (with_reducible apply bI);(· rfl)
 simp only [aa,seval,Fm]
 exact hk _ z.au
open Classical in
theorem zvx {c:cz} {m:List aB} (hl:∀ x,x∈l↔Dc c.head x) (hm:∀ x,x∈m↔∃ a∈c.body,Dc a x):HI c=br (l.any λv => !cq m v) 9:=by
 unfold HI
 congr 1
 rw [Bool.eq_iff_iff,decide_eq_true_iff,wq]
 constructor
 .rintro ⟨x,h1,h2⟩
  refine ⟨x,(hl x).2 h1,?_⟩
  have:cq m x=false:=Bool.eq_false_iff.2 (λhh=>by
   obtain ⟨a,ha,hv⟩:=(hm x).1 (dL.1 hh)
   exact h2 a ha hv)
  rw [this];rfl
 .rintro ⟨x,h1,h2⟩
  refine ⟨x,(hl x).1 h1,λa ha hv=>?_⟩
  have:cq m x=true:=dL.2 ((hm x).2 ⟨a,ha,hv⟩)
  rw [this] at h2
  simp at h2
theorem zvk (c:cz) (v:ae) (h:Heap) (hl:Sl aJ.atom h v c.body) (hs:c.body.length<=200) (K:aG) (hk:∀ h',Ext h h'->K (.int .i64 (HI c)) h'):Ok prog aA ov 148 [.agg ⟨c.head.cells++[v]⟩] h K:=by
 rw [ao h]
 have z:=Ext.refl h
 have dn:∀ (h:Heap) (K:aG),aD (some v) h K=K v h:=λ_ _=>rfl
 have cO:=λ(hh:Heap)=>hl.bt bC hh
 refine Ok.aq 26 (bm KT) ?_
 simp only [aa,seval,jL,zsb,dn,cO]
 refine lg (λh' x hq=>?_)
 have q0:=hq 0 _ rfl
 have q1:=hq 1 _ rfl
 clear hq
 (replace z:=z.aj x;rw [ao h'])
 obtain ⟨A0,dK⟩:∃ A0,A0=h.size+0:=⟨_,rfl⟩
 rw [<- dK] at q0
 rw [<- dK]
 obtain ⟨C,hC⟩:∃ C,C=h.size+1:=⟨_,rfl⟩
 rw [<- hC] at q1
 rw [<- hC]
 obtain ⟨I1,aO⟩:∃ I:Nat->Env->Heap->Prop,I=(λn e h'=>∃ (i:Nat) (wv:ae) (A:Nat) (np:List aB) (h1:Heap),h'=h1.lay [] h1.low/\Ext h h1/\(n=c.body.length - i/\i<=c.body.length/\Holds h1 A0 (.row (c.head.cells++[v]) 77 false)/\Holds h1 C (.row [wv] 22 false)/\Ow aJ.str h h1 9 A wv np/\C < A/\np.length<=4*i/\(∀ x,x∈np↔∃ a∈c.body.take i,Dc a x))/\∃ J:Nat->ae,e=(J 0::.pointer (some ⟨A0,0,none⟩)::J 2::.pointer (some ⟨C,0,none⟩)::jr J 4 4 (v::.int .i64 c.body.length::.int .i64 i::jr J 11 16 ([])))):=⟨_,rfl⟩
 refine cK I1 _ (by rw [aO];exact ⟨0,.slice none 0 0,C+1,[],_,rfl,z,⟨rfl,by omega,q0,q1,Ow.nil (by omega),by omega,by simp,by simp⟩,bc⟩) ?_
 intro n e h' aK
 rw [aO] at aK
 obtain ⟨i,wv,A,np,bD,rfl,z,hinv,J,rfl⟩:=aK
 clear q0 q1
 obtain ⟨rfl,hi,q0,q1,ow,Tf,hhl,b9⟩:=hinv
 have hw:=dE i (by omega)
 have mT:∀ (h:Heap) (K:aG),aD (some wv) h K=K wv h:=λ_ _=>rfl
 simp only [aa,seval,jL]
 refine bg (λaP=>?_) (λaP=>?_)
 .obtain ⟨r,hr,bM⟩:=eb (l:=c.body) (i:=i) (by omega)
  simp only [aa,seval,jL]
  repeat' ((first|with_reducible refine mM (hl.mono z.inc) bC bE (by omega) hr (λp hp=>?_)|with_reducible refine ly hp eK bE ?_) <;> simp only [aa,seval,jL])
  clear hp
  simp only [aa,seval,jL,iR,iT,gX,vQ,fA,zqc,zpl,zpN]
  with_reducible first|refine cZ (by simp only [jL]) z.au ?_
  simp only [aa,seval,jL,q1.lay,mT,↓dW,dO,da]
  refine zts r _ _ (λw2 l2 h' x s2 j7 kr=>?_)
  (((with_reducible refine di ?_ ?_ ?_);(· exact (by (simp only [dp]);have:=z.size;omega));(· exact x));replace z:=z.aj x;replace q0:=q0.over x;replace q1:=q1.over x;replace ow:=ow.over x;rw [ao h'])
  have yS:∀ (h:Heap) (K:aG),aD (some w2) h K=K w2 h:=λ_ _=>rfl
  simp only [cR,seval,jL,ja,zHh]
  have hz:=z.size
  have cM:=ow.fresh
  have Zc:=q1.lt
  obtain ⟨news,ka,gu⟩:=rX (A:=A) (r:=aJ.str) (by decide) (s2.lay [] (h'.size+0)) (λcs y hr=>hr)
  obtain ⟨w3,h3,A3,g1,o3,mb,g4,g5⟩:=tX (t:=22) cQ Ew rfl (by decide) (by rw [bf];omega) (ow.mono (b8.lay _ _ _)) ka gu (by omega) (by omega)
  rw [g1]
  have re:C < A3:=by
   rcases g4 with e|e
   .omega
   .rw [bf] at e;omega
  refine mW (A:=A) (by kernel_rfl) (by rw [bf];omega) (by omega) (by simpa only [bG,bf,bu,de,dr,jh] using mb) ?_
  replace q0:=q0.bj mb (by omega)
  replace q1:=q1.bj mb (by omega)
  replace z:=(z.je [] (h'.size+0) (by omega)).step mb (by omega)
  clear ow s2
  rw [ao h3]
  have afT:Am.one w3=true:=(o3.sl (by decide)).one
  obtain ⟨a3,n3,c3,rfl⟩:=Jp (o3.sl (by decide))
  simp only [aa,seval,jL]
  refine HG q1 aaC rfl rfl rfl (λh4 q4 c4=>?_)
  have Cf:=z.size
  replace q4:Holds h4 C (.row [.slice a3 n3 c3] 22 false):=q4
  refine mW (A:=C) (by kernel_rfl) (by rw [bf];omega) (by omega) (by simpa only [bG,bf,bu,de,dr,jh] using c4) ?_
  replace q0:=q0.bj c4 (by omega)
  replace o3:=(o3.mono (b8.lay h3 [] (h3.size+0))).turn (λ_ _ _ _ h=>h) c4 (by omega) q4
  replace z:=(z.je [] (h3.size+0) (by omega)).step c4 (by omega)
  clear q1
  rw [ao h4]
  simp only [cR,seval,jL]
  ((with_reducible refine ⟨z.bZ.lay _ _,?_⟩);(intro _ h' zz x _);(simp only [bG,bu] at x);replace q0:=q0.over x;replace q4:=q4.over x;replace o3:=o3.over x;(replace z:=zz);(clear zz);rw [ao h'])
  simp only [aa,seval,jL]
  rw [hw]
  have nZ:c.body.take (i+1)=c.body.take i++[r]:=by rw [nT,bM];rfl
  (rw [aO];with_reducible refine bS (m:=_) ?_ ⟨i+1,.slice a3 n3 c3,A3,np++l2,_,rfl,z,⟨rfl,by omega,q0,q4,o3,re,by rw [cW];omega,λx=>by rw [oV,b9,kr,nZ];simp [or_and_right,exists_or]⟩,bc⟩;omega)
 .rw [fX (by omega)] at b9
  simp only [aa,seval,jL,q0.lay,↓zEd,dO,da]
  have sh:=ow.sl (by decide)
  clear ow
  refine zts c.head _ _ (λw2 l2 h' x s2 j7 kr=>?_)
  (replace z:=z.aj x;replace q1:=q1.over x;replace sh:=sh.over x;rw [ao h'])
  have yS:∀ (h:Heap) (K:aG),aD (some w2) h K=K w2 h:=λ_ _=>rfl
  simp only [aa,seval,jL]
  refine zjJ l2 w2 _ (λv => !cq np v) _ (s2.lay _ _) (by omega) (λy hc K' xe hK=>by
   rw [uM]
   exact zvi np y wv C hc ((q1.on _ _).ext xe) ((sh.lay _ _).mono xe.inc) (by omega) K' hK) _ (λh' x=>?_)
  (replace z:=z.aj x;replace q1:=q1.over x;replace sh:=sh.over x;rw [ao h'])
  simp only [aa,seval,jL]
  refine oc _ _ _ _ (λh' f1 x r1=>?_)
  (replace z:=z.aj x;replace q1:=q1.over x;replace sh:=sh.over x;rw [ao h'])
  obtain ⟨k1,u1,v1,rfl⟩:=r1.1
  simp only [aa,seval,jL]
  refine r1.2 _ _ (aQ.lay _ _ _ _) (λh' x=>?_)
  (replace z:=z.aj x;replace q1:=q1.over x;replace sh:=sh.over x;rw [ao h'])
  rw [zvx kr b9] at hk
  simp only [aa,seval,jL]
  exact hk _ z.au
theorem zEc (a:ak) (v:ae):(a.cells++[v])[0]? = some (.string a.says):=rfl
theorem OX (a:ak) (v:ae):(a.cells++[v]).length=12:=rfl
theorem OY (a:ak) (x:Option Addr) (n c:Nat):(a.cells++[Value.slice x n c]).all Am.one=true:=rfl
theorem zEe (a:ak) (v:ae):cut (a.cells++[v]) 0 12=some (a.cells++[v]):=rfl
theorem zEk (h:Heap) (l:List bh) (w i o:Nat) (v:ae) (hi:i < l.length):iS aA 77 (.pointer (some ⟨h.size+i,o,none⟩)) v (h.lay l w)=if v.cells.size=12 then sN l[i]? i o v.cells.toList h l w else none:=wi rL h l w i o v hi
theorem XE (s:aB) (a:ak) (v:ae):cut (Value.string s::(a.cells++[v])) 1 11=some a.cells:=rfl
theorem zEi (h:Heap) (l:List bh) (w i o:Nat) (v:ae) (hi:i < l.length):iS aA 80 (.pointer (some ⟨h.size+i,o,none⟩)) v (h.lay l w)=if v.cells.size=13 then sN l[i]? i o v.cells.toList h l w else none:=wi qj h l w i o v hi
theorem zyd (d:aw) (c:cz) (v:ae) (p0 p1 p2 p5 p6:ae) (q b:Int) (A B:Nat) (h:Heap) (cP:bl 1 h) (bn:(dw p0 p1 p2 p5 p6 q b).all Am.one=true) (h0:Sl aJ.str h p0 d.ah) (h1:Sl aJ.pred h p1 d.cp) (hs:d.ah.length<=1000) (hl:Sl aJ.atom h v c.body) (gr:c.body.length<=1000) (q0:Holds h A (.row (dw p0 p1 p2 p5 p6 q b) 28 false)) (q1:Holds h B (.row (c.head.cells++[v]) 77 false)) (K:aG) (hk:∀ h',Ext h h'->K (.int .i64 (Az d c.head c.body)) h'):Ok prog aA ov 145 [.pointer (some ⟨A,0,none⟩),.pointer (some ⟨B,0,none⟩)] h K:=by
 rw [ao h]
 have z:=Ext.refl h
 have dn:∀ (h:Heap) (K:aG),aD (some v) h K=K v h:=λ_ _=>rfl
 refine Ok.aq 7 (bm KQ) ?_
 simp only [aa,seval,Ma,q0.lay,q1.lay,↓fN,fw,eU,↓zEd,zsb,dO,da,dn]
 refine zlK d c.head c.body v _ _ _ _ _ _ _ _ (cP.lay _ _) bn (h0.lay _ _) (h1.lay _ _) hs (hl.lay _ _) gr _ (λh' x=>?_)
 (replace z:=z.aj x;rw [ao h'])
 simp only [aa,seval,Ma]
 exact hk _ z.au
theorem zye (c:cz) (v:ae) (B:Nat) (h:Heap) (hl:Sl aJ.atom h v c.body) (gr:c.body.length<=200) (q1:Holds h B (.row (c.head.cells++[v]) 77 false)) (K:aG) (hk:∀ h',Ext h h'->K (.int .i64 (HI c)) h'):Ok prog aA ov 147 [.pointer (some ⟨B,0,none⟩)] h K:=by
 rw [ao h]
 have z:=Ext.refl h
 have oJ:∀ (h:Heap) (K:aG),aD (some (.agg (c.head.cells++[v]).toArray)) h K=K (.agg ⟨c.head.cells++[v]⟩) h:=λ_ _=>rfl
 refine Ok.aq 3 (bm KS) ?_
 simp only [aa,seval,Mb,q1.lay,↓zEe,oJ]
 refine zvk c v _ (hl.lay _ _) gr _ (λh' x=>?_)
 (replace z:=z.aj x;rw [ao h'])
 simp only [aa,seval,Mb]
 exact hk _ z.au
theorem zyf (d:aw) (g:eX) (v:ae) (p0 p1 p2 p5 p6:ae) (q b:Int) (A B:Nat) (h:Heap) (cP:bl 1 h) (bn:(dw p0 p1 p2 p5 p6 q b).all Am.one=true) (h0:Sl aJ.str h p0 d.ah) (h1:Sl aJ.pred h p1 d.cp) (hs:d.ah.length<=1000) (hl:Sl aJ.atom h v g.body) (gr:g.body.length<=1000) (q0:Holds h A (.row (dw p0 p1 p2 p5 p6 q b) 28 false)) (q1:Holds h B (.row (.string g.to::(g.head.cells++[v])) 80 false)) (K:aG) (hk:∀ h',Ext h h'->K (.int .i64 (Az d g.head g.body)) h'):Ok prog aA ov 149 [.pointer (some ⟨A,0,none⟩),.pointer (some ⟨B,0,none⟩)] h K:=by
 rw [ao h]
 have z:=Ext.refl h
 have dn:∀ (h:Heap) (K:aG),aD (some v) h K=K v h:=λ_ _=>rfl
 refine Ok.aq 7 (bm KU) ?_
 simp only [aa,seval,Mc,q0.lay,q1.lay,↓fN,fw,eU,↓XE,zsb,dO,da,dn]
 refine zlK d g.head g.body v _ _ _ _ _ _ _ _ (cP.lay _ _) bn (h0.lay _ _) (h1.lay _ _) hs (hl.lay _ _) gr _ (λh' x=>?_)
 (replace z:=z.aj x;rw [ao h'])
 simp only [aa,seval,Mc]
 exact hk _ z.au
theorem zvD (d:aw):Ss d=if jb (λ_ c=>TS d c) [] d.rules=0 then jb (λ_ g=>zxn d g) [] d.bO else jb (λ_ c=>TS d c) [] d.rules:=by
 unfold Ss
 rw [Ua,Ua,zux]
 split
 .split
  .rename_i h;exact h.symm
  .rfl
 .rfl
theorem zyg (d:aw) (p0 p1 p2 p5 p6:ae) (q b:Int) (h:Heap) (cP:bl 1 h) (bn:(dw p0 p1 p2 p5 p6 q b).all Am.one=true) (h0:Sl aJ.str h p0 d.ah) (h1:Sl aJ.pred h p1 d.cp) (hs:d.ah.length<=1000) (h5:Sl aJ.clause h p5 d.rules) (Ag:d.rules.length<=1000) (hb5:∀ r∈d.rules,r.body.length<=200) (h6:Sl aJ.q9 h p6 d.bO) (hs6:d.bO.length<=1000) (Yf:∀ g∈d.bO,g.body.length<=200) (K:aG) (hk:∀ h',Ext h h'->K (.int .i64 (Ss d)) h'):Ok prog aA ov 95 [gC p0 p1 p2 p5 p6 q b] h K:=by
 rw [ao h]
 have z:=Ext.refl h
 have tK:∀ (h:Heap) (K:aG),aD (some p5) h K=K p5 h:=λ_ _=>rfl
 have uI:∀ (h:Heap) (K:aG),aD (some p6) h K=K p6 h:=λ_ _=>rfl
 have gw:∀ (s:aB) (h:Heap) (K:aG),aD (some (.string s)) h K=K (.string s) h:=λ_ _ _=>rfl
 have BS:=λ(hh:Heap)=>h5.bt ni hh
 have yw:=λ(hh:Heap)=>h6.bt oC hh
 rw [zvD] at hk
 obtain ⟨F,hF⟩:∃ F:List cz->cz->Int,F=λ_ c=>TS d c:=⟨_,rfl⟩
 obtain ⟨E,hE⟩:∃ E:List eX->eX->Int,E=λ_ g=>zxn d g:=⟨_,rfl⟩
 rw [<- hF,<- hE] at hk
 refine Ok.aq 50 (bm N95) ?_
 simp only [aa,seval,lZ,jG,oP,tK,BS]
 refine lg (λh' x hq=>?_)
 have q0:=hq 0 _ rfl
 clear hq
 (replace z:=z.aj x;rw [ao h'])
 obtain ⟨A0,dK⟩:∃ A0,A0=h.size+0:=⟨_,rfl⟩
 rw [<- dK] at q0
 rw [<- dK]
 obtain ⟨I1,aO⟩:∃ I:Nat->Env->Heap->Prop,I=(λn e h'=>∃ (i:Nat) (h1:Heap),h'=h1.lay [] h1.low/\Ext h h1/\(n=d.rules.length - i/\i<=d.rules.length/\Holds h1 A0 (.row (dw p0 p1 p2 p5 p6 q b) 28 false)/\jb F [] d.rules=jb F (d.rules.take i) (d.rules.drop i))/\∃ J:Nat->ae,e=(J 0::.pointer (some ⟨A0,0,none⟩)::jr J 2 8 (p5::.int .i64 d.rules.length::.int .i64 i::jr J 13 38 ([])))):=⟨_,rfl⟩
 refine cK I1 _ (by rw [aO];exact ⟨0,_,rfl,z,⟨rfl,by omega,q0,rfl⟩,bc⟩) ?_
 intro n e h' aK
 rw [aO] at aK
 obtain ⟨i,bD,rfl,z,hinv,J,rfl⟩:=aK
 clear q0
 obtain ⟨rfl,hi,q0,ko⟩:=hinv
 have hw:=dE i (by omega)
 simp only [aa,seval,lZ]
 refine bg (λaP=>?_) (λaP=>?_)
 .obtain ⟨r,hr,bM⟩:=eb (l:=d.rules) (i:=i) (by omega)
  rw [ko,uN bM] at hk
  have qv:F (d.rules.take i) r=jI [Az d r.head r.body,HI r]:=by rw [hF];rfl
  have hbr:=hb5 r (ig bM)
  simp only [aa,seval,lZ]
  refine Sw (h5.mono z.inc) ni rL (by omega) hr (λp v hv hp=>?_)
  obtain ⟨av,nv,cv,rfl⟩:=Jp hv
  repeat' (first|simp only [aa,seval,lZ]|with_reducible refine ldc hp L5 rL ?_)
  clear hp
  simp only [aa,seval,lZ,iR,iT,gX,zEk,OX,OY]
  have BD:∀ (bs:List bh) (w:Nat) (i:Nat) (b:bh),bs[i]? = some b->Holds (bD.lay bs w) (bD.size+i) b:=λbs w i b hb=>⟨by rw [bf];have:=(dz.1 hb).1;omega,by rw [gH];exact hb⟩
  refine Aw [.func (.func 145) ⟨[]⟩ ⟨[.pointer (some ⟨A0,0,none⟩),.pointer (some ⟨bD.size+0,0,none⟩)]⟩,.func (.func 147) ⟨[]⟩ ⟨[.pointer (some ⟨bD.size+0,0,none⟩)]⟩] [Az d r.head r.body,HI r] _ _ (AG (i:=1) rfl rfl rfl (by simp)) (by simp) rfl (λi fv e g1 g2=>?_) _ (λh' x=>?_)
  .match i,g1,g2 with
   |0,g1,g2 =>
    cases g1;cases g2
    exact ⟨⟨_,_,_,rfl⟩,λhc K2 y gp=>by
     rw [uM]
     exact zyd d r _ _ _ _ _ _ _ _ A0 _ hc (Holds.dR ((cP.ext z).lay _ _) y) bn (((h0.mono z.inc).lay _ _).mono y.all) (((h1.mono z.inc).lay _ _).mono y.all) hs ((hv.lay _ _).mono y.all) (by omega) (Holds.dR (q0.on _ _) y) (Holds.dR (BD _ _ 0 _ rfl) y) K2 gp⟩
   |1,g1,g2 =>
    cases g1;cases g2
    exact ⟨⟨_,_,_,rfl⟩,λhc K2 y gp=>by
     rw [uM]
     exact zye r _ _ hc ((hv.lay _ _).mono y.all) hbr (Holds.dR (BD _ _ 0 _ rfl) y) K2 gp⟩
  (replace z:=z.aj x;replace q0:=q0.over x;rw [ao h'])
  rw [<- qv]
  clear BD
  simp only [aa,seval,lZ]
  refine im (λba=>?_) (λheq=>?_)
  .rw [az ba,az ba] at hk
   simp only [aa,seval,lZ]
   exact hk _ z.au
  rw [aE heq] at hk
  simp only [aa,seval,lZ]
  rw [hw]
  (rw [aO];with_reducible refine bS (m:=_) ?_ ⟨i+1,_,rfl,z,⟨rfl,by omega,q0,by rw [ko,uN bM,aE heq]⟩,bc⟩;omega)
 rw [ko,HA (by omega),aE rfl] at hk
 clear ko hw hi aP
 simp only [aa,seval,lZ,q0.lay,qe,uI,yw]
 obtain ⟨I2,ey⟩:∃ I:Nat->Env->Heap->Prop,I=(λn e h'=>∃ (i:Nat) (h1:Heap),h'=h1.lay [] h1.low/\Ext h h1/\(n=d.bO.length - i/\i<=d.bO.length/\Holds h1 A0 (.row (dw p0 p1 p2 p5 p6 q b) 28 false)/\jb E [] d.bO=jb E (d.bO.take i) (d.bO.drop i))/\∃ J:Nat->ae,e=(J 0::.pointer (some ⟨A0,0,none⟩)::jr J 2 23 (p6::.int .i64 d.bO.length::.int .i64 i::jr J 28 23 ([])))):=⟨_,rfl⟩
 refine cK I2 _ (by rw [ey];exact ⟨0,_,rfl,z,⟨rfl,by omega,q0,rfl⟩,bc⟩) ?_
 intro n e h' aK
 rw [ey] at aK
 obtain ⟨i,bD,rfl,z,hinv,J,rfl⟩:=aK
 clear q0
 obtain ⟨rfl,hi,q0,ko⟩:=hinv
 have hw:=dE i (by omega)
 simp only [aa,seval,lZ]
 refine bg (λaP=>?_) (λaP=>?_)
 .obtain ⟨r,hr,bM⟩:=eb (l:=d.bO) (i:=i) (by omega)
  rw [ko,uN bM] at hk
  have qv:E (d.bO.take i) r=jI [br (!cq d.ah r.to) 6,br (decide (r.to=r.head.says)) 11,Az d r.head r.body]:=by rw [hE];rfl
  have hbr:=Yf r (ig bM)
  simp only [aa,seval,lZ]
  refine Vc (h6.mono z.inc) oC qj (by omega) hr (λp v hv hp=>?_)
  obtain ⟨av,nv,cv,rfl⟩:=Jp hv
  repeat' (first|simp only [aa,seval,lZ]|with_reducible refine ldG hp Ff qj ?_)
  clear hp
  simp only [aa,seval,lZ,iR,gL,Am.one,iT,gX,zEi,OX,OY]
  refine lg (λh' x hq=>?_)
  have e0:=hq 0 _ rfl
  clear hq
  (replace z:=z.aj x;replace q0:=q0.over x;replace hv:=hv.over x;rw [ao h'])
  obtain ⟨E0,oE⟩:∃ E0,E0=bD.size+0:=⟨_,rfl⟩
  rw [<- oE] at e0
  rw [<- oE]
  with_reducible first|refine cZ (by simp only [lZ]) z.au ?_
  simp only [aa,seval,lZ,q0.lay,e0.lay,gw,↓fN,fw,eU]
  refine Q0 d.ah r.to _ _ _ _ _ _ _ _ ((h0.mono z.inc).lay _ _) hs _ (λh' x=>?_)
  (((with_reducible refine di ?_ ?_ ?_);(· exact (by (simp only [dp]);have:=z.size;omega));(· exact x));replace z:=z.aj x;replace q0:=q0.over x;replace e0:=e0.over x;replace hv:=hv.over x;rw [ao h'])
  simp only [aa,seval,lZ]
  (with_reducible apply bI);(· rfl)
  simp only [aa,seval,lZ]
  refine oc _ _ _ _ (λh' f1 x r1=>?_)
  (((with_reducible refine di ?_ ?_ ?_);(· exact (by (simp only [dp]);have:=z.size;omega));(· exact x));replace z:=z.aj x;replace q0:=q0.over x;replace e0:=e0.over x;replace hv:=hv.over x;rw [ao h'])
  simp only [aa,seval,lZ,e0.lay,zEc,gw]
  rw [Au]
  simp only [aa,seval,lZ]
  refine oc _ _ _ _ (λh' f2 x r2=>?_)
  (((with_reducible refine di ?_ ?_ ?_);(· exact (by (simp only [dp]);have:=z.size;omega));(· exact x));replace z:=z.aj x;replace q0:=q0.over x;replace e0:=e0.over x;replace hv:=hv.over x;replace r1:=r1.over x;rw [ao h'])
  have r3:ft h' (.func (.func 149) ⟨[]⟩ ⟨[.pointer (some ⟨A0,0,none⟩),.pointer (some ⟨E0,0,none⟩)]⟩) (Az d r.head r.body):=⟨⟨_,_,_,rfl⟩,λhc K2 y gp=>by
   rw [uM]
   exact zyf d r _ _ _ _ _ _ _ _ A0 E0 hc (Holds.dR (cP.ext z) y) bn ((h0.mono z.inc).mono y.all) ((h1.mono z.inc).mono y.all) hs (hv.mono y.all) (by omega) (Holds.dR q0 y) (Holds.dR e0 y) K2 gp⟩
  obtain ⟨k1,u1,v1,rfl⟩:=r1.1
  obtain ⟨k2,u2,v2,rfl⟩:=r2.1
  simp only [aa,seval,lZ]
  refine tS (by have:=z.size;omega) (by omega) ?_
  simp only [aa,seval,lZ]
  refine Aw [.func k1 u1 v1,.func k2 u2 v2,.func (.func 149) ⟨[]⟩ ⟨[.pointer (some ⟨A0,0,none⟩),.pointer (some ⟨E0,0,none⟩)]⟩] [br (!cq d.ah r.to) 6,br (decide (r.to=r.head.says)) 11,Az d r.head r.body] _ _ (AG (i:=0) rfl rfl rfl (by simp)) (by simp) rfl (λi fv e g1 g2=>?_) _ (λh' x=>?_)
  .match i,g1,g2 with
   |0,g1,g2=>cases g1;cases g2;exact r1.lay _ _
   |1,g1,g2=>cases g1;cases g2;exact r2.lay _ _
   |2,g1,g2=>cases g1;cases g2;exact r3.lay _ _
  (((with_reducible refine di ?_ ?_ ?_);(· exact (by (simp only [dp]);have:=z.size;omega));(· exact x));replace z:=z.aj x;replace q0:=q0.over x;replace e0:=e0.over x;replace hv:=hv.over x;replace r1:=r1.over x;replace r2:=r2.over x;rw [ao h'])
  rw [<- qv]
  clear r1 r2 r3
  simp only [aa,seval,lZ]
  ((with_reducible refine ⟨z.bZ.lay _ _,?_⟩);(intro _ h' zz x _);(simp only [bG,bu] at x);replace q0:=q0.over x;(replace z:=zz);(clear zz);rw [ao h'])
  simp only [aa,seval,lZ]
  refine im (λba=>?_) (λheq=>?_)
  .rw [az ba] at hk
   simp only [aa,seval,lZ]
   exact hk _ z.au
  rw [aE heq] at hk
  simp only [aa,seval,lZ]
  rw [hw]
  (rw [ey];with_reducible refine bS (m:=_) ?_ ⟨i+1,_,rfl,z,⟨rfl,by omega,q0,by rw [ko,uN bM,aE heq]⟩,bc⟩;omega)
 .rw [ko,HA (by omega)] at hk
  simp only [aa,seval,lZ]
  exact hk _ z.au
structure A4 (d:aw):Prop where
 p:d.ah.length<=1000
 c:d.aU.length<=1000
 r:d.rules.length<=1000
 rb:∀ r∈d.rules,r.body.length<=200
 g:d.bO.length<=1000
 gb:∀ g∈d.bO,g.body.length<=200
theorem zxS (d:aw) (p0 p1 p2 p5 p6:ae) (q b:Int) (h:Heap) (cP:bl 1 h) (bn:(dw p0 p1 p2 p5 p6 q b).all Am.one=true) (hd:ej h p0 p1 p2 p5 p6 d) (hq:d.iO=q) (hb:d.fE=b) (hn:A4 d) (K:aG) (hk:∀ h',Ext h h'->K (.int .i64 (zB d)) h'):Ok prog aA ov 55 [gC p0 p1 p2 p5 p6 q b] h K:=by
 rw [ao h]
 have z:=Ext.refl h
 obtain ⟨es,BI⟩:∃ es,es=[HT d.ah,Su d.cp,HN d.ah d.aU,HE d,Ss d]:=⟨_,rfl⟩
 obtain ⟨sk,Tq⟩:∃ sk:List ae,sk=[.func (.func 91) ⟨[]⟩ ⟨[]⟩,.func (.func 92) ⟨[]⟩ ⟨[]⟩,.func (.func 93) ⟨[]⟩ ⟨[]⟩,.func (.func 94) ⟨[]⟩ ⟨[]⟩,.func (.func 95) ⟨[]⟩ ⟨[]⟩]:=⟨_,rfl⟩
 have DD:zB d=jI es:=by rw [BI];rfl
 rw [DD] at hk
 have eu:∀ (i:Nat) fv e,sk[i]? = some fv->es[i]? = some e->∀ hc (K:aG),Ext h hc->(∀ h',Ext hc h'->K (.int .i64 e) h')->pw prog aA ov [gC p0 p1 p2 p5 p6 q b] hc K fv:=by
  intro i fv e h1 h2 hc K2 y gp
  rw [Tq] at h1
  rw [BI] at h2
  have js:=hd.mono y.inc
  match i,h1,h2 with
  |0,h1,h2=>cases h1;cases h2;rw [sE];exact zya d.ah _ _ _ _ _ _ _ hc (cP.ext y) js.s0 K2 gp
  |1,h1,h2=>cases h1;cases h2;rw [sE];exact zx7 d.cp _ _ _ _ _ _ _ hc (cP.ext y) js.s1 K2 gp
  |2,h1,h2=>cases h1;cases h2;rw [sE];exact zu5 d _ _ _ _ _ _ _ hc bn js.s0 js.s2 hn.p hn.c K2 gp
  |3,h1,h2=>cases h1;cases h2;rw [sE];exact zrZ d _ _ _ _ _ _ _ hc hq hb js.s5 js.s6 hn.r hn.g K2 gp
  |4,h1,h2=>cases h1;cases h2;rw [sE];exact zyg d _ _ _ _ _ _ _ hc (cP.ext y) bn js.s0 js.s1 hn.p js.s5 hn.r hn.rb js.s6 hn.g hn.gb K2 gp
 have so:sk.length=5:=by rw [Tq];rfl
 have uA:es.length=5:=by rw [BI];rfl
 refine Ok.aq 20 (bm N55) ?_
 simp only [aa,seval,Bo,jG]
 refine lg (λh' x hq=>?_)
 have q0:=hq 0 _ rfl
 have q1:=hq 1 _ rfl
 clear hq
 (replace z:=z.aj x;rw [ao h'])
 obtain ⟨A0,dK⟩:∃ A0,A0=h.size+0:=⟨_,rfl⟩
 rw [<- dK] at q0
 rw [<- dK]
 obtain ⟨A1,me⟩:∃ A1,A1=h.size+1:=⟨_,rfl⟩
 rw [<- me] at q1
 rw [<- me]
 have sf:Sl aJ.MJ h' (.slice (some ⟨A1,0,none⟩) 5 5) sk:=by
  refine .inr ⟨A1,0,5,_,_,_,by rw [so],by rw [so];unfold maxLen;omega,.inl ⟨by unfold G;omega,by omega⟩,q1.lt,q1.get,λj x hx=>⟨[x],?_,rfl,?_⟩⟩
  .rw [Tq] at hx
   match j,hx with
   |0,hx=>cases hx;rfl
   |1,hx=>cases hx;rfl
   |2,hx=>cases hx;rfl
   |3,hx=>cases hx;rfl
   |4,hx=>cases hx;rfl
  .rw [Tq] at hx
   match j,hx with
   |0,hx=>cases hx;rfl
   |1,hx=>cases hx;rfl
   |2,hx=>cases hx;rfl
   |3,hx=>cases hx;rfl
   |4,hx=>cases hx;rfl
 clear q1
 obtain ⟨sv,D4⟩:∃ sv,sv=Value.slice (some ⟨A1,0,none⟩) 5 5:=⟨_,rfl⟩
 rw [<- D4] at sf ⊢
 obtain ⟨I1,aO⟩:∃ I:Nat->Env->Heap->Prop,I=(λn e h'=>∃ (i:Nat) (h1:Heap),h'=h1.lay [] h1.low/\Ext h h1/\(n=5 - i/\i<=5/\Holds h1 A0 (.row (dw p0 p1 p2 p5 p6 q b) 28 false)/\Sl aJ.MJ h1 sv sk/\(∀ x∈es.take i,x=0))/\∃ J:Nat->ae,e=(J 0::.pointer (some ⟨A0,0,none⟩)::jr J 2 6 (sv::.int .i64 5::.int .i64 i::jr J 11 10 ([])))):=⟨_,rfl⟩
 refine cK I1 _ (by rw [aO];exact ⟨0,_,rfl,z,⟨rfl,by omega,q0,sf,by simp⟩,bc⟩) ?_
 intro n e h' aK
 rw [aO] at aK
 obtain ⟨i,bD,rfl,z,hinv,J,rfl⟩:=aK
 clear q0 sf
 obtain ⟨rfl,hi,q0,sf,aC⟩:=hinv
 have hw:=dE i (by omega)
 simp only [aa,seval,Bo]
 refine bg (λaP=>?_) (λaP=>?_)
 rotate_left
 .rw [fX (by omega)] at aC
  rw [cd.2 aC] at hk
  simp only [aa,seval,Bo]
  exact hk _ z.au
 obtain ⟨fv,hf,Yr⟩:=eb (l:=sk) (i:=i) (by omega)
 obtain ⟨e,he,wH⟩:=eb (l:=es) (i:=i) (by omega)
 simp only [aa,seval,Bo]
 repeat' ((first|with_reducible refine zxu sf Vf zHl (by omega) hf (λp hp=>?_)|with_reducible refine fo hp zDH ?_) <;> simp only [aa,seval,Bo])
 simp only [aa,seval,Bo,q0.lay,↓fN,fw,eU]
 refine eu i fv e Yr wH _ _ z.au (λh' x=>?_)
 (replace z:=z.aj x;replace q0:=q0.over x;replace sf:=sf.over x;rw [ao h'])
 simp only [aa,seval,Bo]
 refine im (λba=>?_) (λheq=>?_)
 .rw [zo4 aC wH ba] at hk
  simp only [aa,seval,Bo]
  exact hk _ z.au
 .simp only [aa,seval,Bo]
  rw [hw]
  (rw [aO];with_reducible refine bS (m:=_) ?_ ⟨i+1,_,rfl,z,⟨rfl,by omega,q0,sf,mL (i:=i) (P:=λx:Int=>x=0) wH aC heq⟩,bc⟩;omega)
end Go.Proofs.YtkgojconmeeegaaGreatDoor
