/- The code of some functions, node by node, for simp. Written by a program (mkcode.py). No condition. -/
import Derived.Test.YtjildadoepadeaaGreatDoorG34
set_option linter.unusedSimpArgs false
set_option linter.unusedVariables false
set_option maxRecDepth 100000
set_option maxHeartbeats 0
noncomputable section
namespace Go.Proofs.YtjildadoepadeaaGreatDoor
open Go.Am Tryz
variable {l:List aA}
def Po:=bq f62
def Rf:=PLift.up (by have c:=bw Po f62;simp only [aJ,f62,seval] at c;exact nd c <| nd @OK <| nd @wB <| nd @Gp <| nd @kc <| nd @lp <| nd @eO <| nd @kg <| @Ks)
theorem k6:type_of% Rf.down:=Rf.down
def Pp:=bq f63
def Rh:=PLift.up (by have c:=bw Pp f63;simp only [aJ,f63,seval] at c;exact nd c <| nd @OK <| nd @wT <| nd @wB <| nd @Gq <| nd @ze <| nd @Gt <| nd @rL <| nd @rM <| nd @jy <| nd @yz <| nd @eO <| nd @rO <| @Kt)
theorem gv:type_of% Rh.down:=Rh.down
def BA:=bq f110
def EG:=PLift.up (by have c:=bw BA f110;simp only [aJ,f110,seval] at c;exact nd c <| nd @wB <| nd @wo <| nd @IK <| nd @kc <| nd @lp <| nd @dM <| nd @eO <| nd @kg <| @zxV)
theorem dR:type_of% EG.down:=EG.down
def Pq:=bq f64
def Ri:=PLift.up (by have c:=bw Pq f64;simp only [aJ,f64,seval] at c;exact nd c <| nd @OK <| nd @Jr <| nd @wB <| nd @Ol <| nd @wo <| nd @yv <| nd @yy <| nd @dM <| nd @yA <| nd @eO <| nd @yB <| @Ku)
theorem lV:type_of% Ri.down:=Ri.down
def Bz:=bq f109
def EF:=PLift.up (by have c:=bw Bz f109;simp only [aJ,f109,seval] at c;exact nd c <| nd @dM <| nd @yA <| @zxU)
theorem Cy:type_of% EF.down:=EF.down
def Pr:=bq f65
def Rj:=PLift.up (by have c:=bw Pr f65;simp only [aJ,f65,seval] at c;exact nd c <| nd @Us <| nd @Ut <| nd @II <| nd @IJ <| nd @ue <| nd @uh <| nd @jy <| nd @uj <| nd @uk <| @Kv)
theorem GW:type_of% Rj.down:=Rj.down
def BC:=bq f112
def EI:=PLift.up (by have c:=bw BC f112;simp only [aJ,f112,seval] at c;exact nd c <| nd @wB <| nd @nG <| nd @nH <| @zxX)
theorem tl:type_of% EI.down:=EI.down
def BZ:=bq f173
def Fc:=PLift.up (by have c:=bw BZ f173;simp only [aJ,f173,seval] at c;exact nd c <| nd @dM <| nd @cP <| @zyl)
theorem CH:type_of% Fc.down:=Fc.down
def B0:=bq f174
def Fe:=PLift.up (by have c:=bw B0 f174;simp only [aJ,f174,seval] at c;exact nd c <| nd @qo <| nd @pj <| nd @dM <| nd @cP <| nd @nG <| nd @nH <| @zym)
theorem k5:type_of% Fe.down:=Fe.down
def BE:=bq f114
def EK:=PLift.up (by have c:=bw BE f114;simp only [aJ,f114,seval] at c;exact nd c <| nd @Jq <| nd @qo <| nd @zf <| nd @zg <| nd @pj <| nd @lp <| nd @cP <| nd @nG <| nd @nH <| @zxZ)
theorem fT:type_of% EK.down:=EK.down
def B3:=bq f177
def Fh:=PLift.up (by have c:=bw B3 f177;simp only [aJ,f177,seval] at c;exact nd c <| nd @lp <| @zyp)
theorem w5:type_of% Fh.down:=Fh.down
def Ps:=bq f66
def Rk:=PLift.up (by have c:=bw Ps f66;simp only [aJ,f66,seval] at c;exact nd c <| nd @Js <| nd @Cv <| nd @wB <| nd @II <| nd @IJ <| nd @sb <| nd @IL <| nd @Gu <| nd @yw <| nd @yx <| nd @ue <| nd @uh <| nd @dM <| nd @Ec <| nd @Ed <| nd @eO <| nd @uj <| nd @uk <| @Kw)
theorem iH:type_of% Rk.down:=Rk.down
def BB:=bq f111
def EH:=PLift.up (by have c:=bw BB f111;simp only [aJ,f111,seval] at c;exact nd c <| nd @zf <| nd @zg <| nd @dM <| nd @cP <| nd @nG <| @zxW)
theorem Cz:type_of% EH.down:=EH.down
def BD:=bq f113
def EJ:=PLift.up (by have c:=bw BD f113;simp only [aJ,f113,seval] at c;exact nd c <| nd @Ec <| @zxY)
theorem CA:type_of% EJ.down:=EJ.down
def BF:=bq f115
def EL:=PLift.up (by have c:=bw BF f115;simp only [aJ,f115,seval] at c;exact nd c <| nd @Gu <| nd @IM <| nd @dM <| nd @cP <| nd @nG <| @zx0)
theorem CB:type_of% EL.down:=EL.down
def O2:=bq f27
def QT:=PLift.up (by have c:=bw O2 f27;simp only [aJ,f27,seval] at c;exact nd c <| nd @zxA <| nd @zyN <| nd @dM <| nd @Mk <| nd @zyS <| @J6)
theorem tw:type_of% QT.down:=QT.down
def B2:=bq f176
def Fg:=PLift.up (by have c:=bw B2 f176;simp only [aJ,f176,seval] at c;exact nd c <| @zyo)
theorem wZ:type_of% Fg.down:=Fg.down
def Cc:=bq f217
def Fw:=PLift.up (by have c:=bw Cc f217;simp only [aJ,f217,seval] at c;exact nd c <| nd @kc <| nd @eO <| nd @kg <| @zyz)
theorem na:type_of% Fw.down:=Fw.down
theorem AX:az.desc 162=some (.map 9 163):=by kernel_rfl
theorem oN:az.desc 9=some .string:=by kernel_rfl
theorem OC:az.zero 163=some (.agg ⟨[]⟩):=by kernel_rfl
theorem NT:mJ az 163 []=some (.agg ⟨[]⟩):=by kernel_rfl
theorem M3 {T:bm} {t kt et:TypeId} {A w:Nat} {met:List aA} {a:aA} {h1:Heap} {bs:List bd} {K:aF} (m:ey Value.string h1 A met) (hd:T.desc t=some (.map kt et)) (hs:T.desc kt=some .string) (hz:T.zero et=some (.agg ⟨[]⟩)) (hK:K (.tuple #[.agg ⟨[]⟩,.bool (aM met a)]) (h1.lay bs w)):aE (y9 T t (.map (some A)) (.string a) true (h1.lay bs w)) (h1.lay bs w) K :=
 zqc (kv:=Value.string) m (λ_=>rfl) hd (UI hs) hz (λhm=>by rw [cG.2 hm] at hK;exact hK) (λhm=>by rw [Bool.eq_false_iff.2 (mt cG.1 hm)] at hK;exact hK)
theorem NC {T:bm} {t kt et:TypeId} {A w:Nat} {met:List aA} {a:aA} {h1:Heap} {bs:List bd} {K:aF} (m:ey Value.string h1 A met) (hd:T.desc t=some (.map kt et)) (hs:T.desc kt=some .string) (hK:∀ h',ey Value.string h' A (met++[a])->gL A (h1.lay bs w) h'->K undef h'):lr (nP T t (.map (some A)) (.string a) (.agg ⟨[]⟩) (h1.lay bs w)) K :=
 zuJ (kv:=Value.string) m (λ_=>rfl) (λx=>ZC x) hd (UI hs) (λh' m2 c=>hK h' (m2.same (λb=>by rw [i0,pM,td];exact Or.comm)) c)
theorem Oi (h:Heap) (l:List bd) (w i o:Nat) (v:ai) (hi:i < l.length):gm az 163 (.pointer (some ⟨h.size+i,o,none⟩)) v (h.lay l w)=if v.cells.size=0 then oF l[i]? i o v.cells.toList h l w else none:=si (by kernel_rfl) h l w i o v hi
theorem zuh (s:aA) (h:Heap) (bJ:aI 1 h) (K:aF) (hk:∀ h',Ext h h'->K (.bool (kr s)) h'):Ok prog az ov 107 [.string s] h K :=
 Ii s h bJ K (λg h' x=>by rw [bl.2 g] at hk;exact hk h' x) (λg h' x=>by rw [H4 g] at hk;exact hk h' x)
theorem zug (s:aA) (h:Heap) (bJ:aI 1 h) (K:aF) (hk:∀ h',Ext h h'->K (.bool (kr s)) h'):Ok prog az ov 108 [.string s] h K :=
 NM s h bJ K (λg h' x=>by rw [bl.2 g] at hk;exact hk h' x) (λg h' x=>by rw [H4 g] at hk;exact hk h' x)
theorem Sg (h:l.length < 1\/16 < l.length):nN l=4:=aC h
theorem zsE (l:List aA) (p0 p1 p2 p5 p6:ai) (q b:Int) (h:Heap) (bJ:aI 1 h) (hl:Sl aQ.str h p0 l) (K:aF) (hk:∀ h',Ext h h'->K (.int .i64 (nN l)) h'):Ok prog az ov 62 [fS p0 p1 p2 p5 p6 q b] h K:=by
 rw [ak h]
 have z:=Ext.refl h
 have hle:=hl.le
 have b9:∀ (h:Heap) (K:aF),aE (some p0) h K=K p0 h:=λ_ _=>rfl
 have cO:=λ(hh:Heap)=>hl.bE dp hh
 refine Ok.au 47 (br Po) ?_
 simp only [aa,seval,k6,iE,kh,b9,cO]
 refine bp (λh1=>?_) (λh1=>?_)
 .rw [Sg (.inl (by omega))] at hk
  simp only [aa,seval,k6]
  exact hk _ z.ao
 simp only [aa,seval,k6]
 refine bp (λh2=>?_) (λh2=>?_)
 .rw [Sg (.inr (by omega))] at hk
  simp only [aa,seval,k6]
  exact hk _ z.ao
 have tT:nN l=dw (λpre w=>eN [aO (!kr w) 3,aO (aM pre w) 5]) [] l:=ay (by omega)
 rw [tT] at hk
 obtain ⟨F,hF⟩:∃ F:List aA->aA->Int,F=λpre w=>eN [aO (!kr w) 3,aO (aM pre w) 5]:=⟨_,rfl⟩
 rw [<- hF] at hk
 simp only [aa,seval,k6,Np,kh,b9,cO]
 refine ko (λh' x hq=>?_)
 have q0:=hq 0 _ rfl
 have q1:=hq 1 _ rfl
 clear hq
 (replace z:=z.aj x;rw [ak h'])
 obtain ⟨M,hM⟩:∃ M,M=h.size+1:=⟨_,rfl⟩
 rw [<- hM] at q1
 rw [<- hM]
 clear q0
 obtain ⟨I1,aU⟩:∃ I:Nat->Env->Heap->Prop,I=(λn e h'=>∃ (i:Nat) (h1:Heap),h'=h1.lay [] h1.low/\Ext h h1/\(n=l.length - i/\i<=l.length/\ey Value.string h1 M (l.take i)/\dw F [] l=dw F (l.take i) (l.drop i))/\∃ J:Nat->ai,e=(jr J 0 4 (.map (some M)::jr J 5 16 (p0::.int .i64 l.length::.int .i64 i::jr J 24 24 ([]))))):=⟨_,rfl⟩
 refine dK I1 _ (by rw [aU];exact ⟨0,_,rfl,z,⟨rfl,by omega,ey.new q1,rfl⟩,bx⟩) ?_
 intro n e h' aR
 rw [aU] at aR
 obtain ⟨i,b8,rfl,z,hinv,J,rfl⟩:=aR
 clear q1
 obtain ⟨rfl,hi,q1,cH⟩:=hinv
 have hw:=ec i (by omega)
 simp only [aa,seval,k6]
 refine bp (λaS=>?_) (λaS=>?_)
 rotate_left
 .rw [cH,vT (by omega)] at hk
  simp only [aa,seval,k6]
  exact hk _ z.ao
 obtain ⟨r,hr,bz⟩:=fx (l:=l) (i:=i) (by omega)
 rw [cH,mP bz] at hk
 have lJ:F (l.take i) r=eN [aO (!kr r) 3,aO (aM (l.take i) r) 5]:=by rw [hF]
 simp only [aa,seval,k6]
 repeat' ((first|with_reducible refine sd (hl.mono z.inc) dp mD (by omega) hr (λp hp=>?_)|with_reducible refine iF hp lG ?_) <;> simp only [aa,seval,k6])
 simp only [gf,seval,ND]
 refine M3 q1 AX oN OC ?_
 simp only [aa,seval,k6]
 rw [sR]
 simp only [aa,seval,k6,i7,mL,jM,iZ,Oi]
 refine zuh r _ ((bJ.ext z).lay _ _) _ (λh' x=>?_)
 (replace z:=z.aj x;replace q1:=q1.over x;rw [ak h'])
 clear hp
 simp only [aa,seval,k6]
 (with_reducible apply bK);(· rfl)
 simp only [aa,seval,k6]
 refine jV _ _ _ _ (λh' f1 x r1=>?_)
 (replace z:=z.aj x;replace q1:=q1.over x;rw [ak h'])
 simp only [aa,seval,k6]
 refine jV _ _ _ _ (λh' f2 x r2=>?_)
 (replace z:=z.aj x;replace q1:=q1.over x;replace r1:=r1.over x;rw [ak h'])
 obtain ⟨g1,u1,v1,rfl⟩:=r1.1
 obtain ⟨g2,u2,v2,rfl⟩:=r2.1
 simp only [aa,seval,k6]
 refine sU [.func g1 u1 v1,.func g2 u2 v2] [aO (!kr r) 3,aO (aM (l.take i) r) 5] _ _ (tc (i:=0) rfl rfl rfl (by simp)) (by simp) rfl (λi fv e h1 h2=>?_) _ (λh' x=>?_)
 .match i,h1,h2 with
  |0,h1,h2=>cases h1;cases h2;exact r1.lay _ _
  |1,h1,h2=>cases h1;cases h2;exact r2.lay _ _
 (replace z:=z.aj x;replace q1:=q1.over x;replace r1:=r1.over x;replace r2:=r2.over x;rw [ak h'])
 rw [<- lJ]
 clear r1 r2
 simp only [aa,seval,k6]
 refine gD (λaV=>?_) (λheq=>?_)
 .rw [ay aV] at hk
  simp only [aa,seval,k6]
  exact hk _ z.ao
 rw [aC heq] at hk
 have C6:h.size<=M:=by omega
 simp only [aa,seval,k6,NT,MR]
 refine NC q1 AX oN (λh3 q3 lH=>?_)
 replace z:=z.cX lH C6 (by omega)
 rw [ak h3]
 simp only [aa,seval,k6]
 rw [hw]
 have htk:l.take (i+1)=l.take i++[r]:=by rw [wz,bz];rfl
 rw [<- htk] at q3
 (rw [aU];with_reducible refine db (m:=_) ?_ ⟨i+1,_,rfl,z,⟨rfl,by omega,q3,by rw [cH,mP bz,aC heq]⟩,bx⟩;omega)
theorem zqE {l:List bb} (h:32 < l.length):oE l=4:=aC h
theorem zsD (l:List bb) (p0 p1 p2 p5 p6:ai) (q b:Int) (h:Heap) (bJ:aI 1 h) (hl:Sl aQ.pred h p1 l) (K:aF) (hk:∀ h',Ext h h'->K (.int .i64 (oE l)) h'):Ok prog az ov 63 [fS p0 p1 p2 p5 p6 q b] h K:=by
 rw [ak h]
 have z:=Ext.refl h
 have hle:=hl.le
 have b9:∀ (h:Heap) (K:aF),aE (some p1) h K=K p1 h:=λ_ _=>rfl
 have eo:∀ (s:aA) (h:Heap) (K:aF),aE (some (.string s)) h K=K (.string s) h:=λ_ _ _=>rfl
 have cO:=λ(hh:Heap)=>hl.bE iu hh
 refine Ok.au 53 (br Pp) ?_
 simp only [aa,seval,gv,iE,iW,b9,cO]
 refine bp (λh2=>?_) (λh2=>?_)
 .rw [zqE (by omega)] at hk
  simp only [aa,seval,gv]
  exact hk _ z.ao
 have tT:oE l=dw (λpre x=>eN [aO (!kr x.name) 3,aO (aM (pre.map bb.name) x.name) 5,aO (decide (x.arity < 0\/4 < x.arity)) 4]) [] l:=ay (by omega)
 rw [tT] at hk
 obtain ⟨F,hF⟩:∃ F:List bb->bb->Int,F=λpre x=>eN [aO (!kr x.name) 3,aO (aM (pre.map bb.name) x.name) 5,aO (decide (x.arity < 0\/4 < x.arity)) 4]:=⟨_,rfl⟩
 rw [<- hF] at hk
 simp only [aa,seval,gv,Np,iW,b9,cO]
 refine ko (λh' x hq=>?_)
 have q0:=hq 0 _ rfl
 have q1:=hq 1 _ rfl
 clear hq
 (replace z:=z.aj x;rw [ak h'])
 obtain ⟨M,hM⟩:∃ M,M=h.size+1:=⟨_,rfl⟩
 rw [<- hM] at q1
 rw [<- hM]
 clear q0
 obtain ⟨I1,aU⟩:∃ I:Nat->Env->Heap->Prop,I=(λn e h'=>∃ (i:Nat) (h1:Heap),h'=h1.lay [] h1.low/\Ext h h1/\(n=l.length - i/\i<=l.length/\ey Value.string h1 M ((l.take i).map bb.name)/\dw F [] l=dw F (l.take i) (l.drop i))/\∃ J:Nat->ai,e=(jr J 0 3 (.map (some M)::jr J 4 11 (p1::.int .i64 l.length::.int .i64 i::jr J 18 36 ([]))))):=⟨_,rfl⟩
 refine dK I1 _ (by rw [aU];exact ⟨0,_,rfl,z,⟨rfl,by omega,ey.new q1,rfl⟩,bx⟩) ?_
 intro n e h' aR
 rw [aU] at aR
 obtain ⟨i,b8,rfl,z,hinv,J,rfl⟩:=aR
 clear q1
 obtain ⟨rfl,hi,q1,cH⟩:=hinv
 have hw:=ec i (by omega)
 simp only [aa,seval,gv]
 refine bp (λaS=>?_) (λaS=>?_)
 rotate_left
 .rw [cH,vT (by omega)] at hk
  simp only [aa,seval,gv]
  exact hk _ z.ao
 obtain ⟨r,hr,bz⟩:=fx (l:=l) (i:=i) (by omega)
 rw [cH,mP bz] at hk
 have lJ:F (l.take i) r=eN [aO (!kr r.name) 3,aO (aM ((l.take i).map bb.name) r.name) 5,aO (decide (r.arity < 0\/4 < r.arity)) 4]:=by rw [hF]
 simp only [aa,seval,gv]
 repeat' ((first|with_reducible refine Gv (hl.mono z.inc) iu iX (by omega) hr (λp hp=>?_)|with_reducible refine Ee hp th iX ?_) <;> simp only [aa,seval,gv])
 simp only [aa,seval,gv,i7,kS,mL,Am.one,jM,iZ,UU,ND,eo]
 refine M3 q1 AX oN OC ?_
 simp only [aa,seval,gv]
 rw [sR]
 simp only [aa,seval,gv,i7,mL,jM,iZ,List.set_cons_succ,Oi]
 refine ko (λh' x hq=>?_)
 have e0:=hq 0 _ rfl
 clear hq
 (replace z:=z.aj x;replace q1:=q1.over x;rw [ak h'])
 obtain ⟨E0,lI⟩:∃ E0,E0=b8.size+0:=⟨_,rfl⟩
 rw [<- lI] at e0
 rw [<- lI]
 clear hp
 with_reducible first|refine hH (by simp only [gv]) z.ao ?_
 simp only [aa,seval,gv,e0.lay,eo]
 refine zug r.name _ ((bJ.ext z).lay _ _) _ (λh' x=>?_)
 (((with_reducible refine eu ?_ ?_ ?_);(· exact (by (simp only [ep]);have:=z.size;omega));(· exact x));replace z:=z.aj x;replace q1:=q1.over x;replace e0:=e0.over x;rw [ak h'])
 simp only [aa,seval,gv]
 (with_reducible apply bK);(· rfl)
 simp only [aa,seval,gv]
 refine jV _ _ _ _ (λh' f1 x r1=>?_)
 (((with_reducible refine eu ?_ ?_ ?_);(· exact (by (simp only [ep]);have:=z.size;omega));(· exact x));replace z:=z.aj x;replace q1:=q1.over x;replace e0:=e0.over x;rw [ak h'])
 simp only [aa,seval,gv]
 refine jV _ _ _ _ (λh' f2 x r2=>?_)
 (((with_reducible refine eu ?_ ?_ ?_);(· exact (by (simp only [ep]);have:=z.size;omega));(· exact x));replace z:=z.aj x;replace q1:=q1.over x;replace e0:=e0.over x;replace r1:=r1.over x;rw [ak h'])
 simp only [aa,seval,gv,e0.lay]
 refine bp (λc1=>?_) (λc1=>?_)
 .have i6:decide (r.arity < 0\/4 < r.arity)=true:=by simp [c1]
  rw [i6] at lJ
  simp only [aa,seval,gv]
  refine jV _ _ _ _ (λh' f3 x r3=>?_)
  (((with_reducible refine eu ?_ ?_ ?_);(· exact (by (simp only [ep]);have:=z.size;omega));(· exact x));replace z:=z.aj x;replace q1:=q1.over x;replace e0:=e0.over x;replace r1:=r1.over x;replace r2:=r2.over x;rw [ak h'])
  obtain ⟨g1,u1,v1,rfl⟩:=r1.1
  obtain ⟨g2,u2,v2,rfl⟩:=r2.1
  obtain ⟨g3,u3,v3,rfl⟩:=r3.1
  simp only [aa,seval,gv]
  refine yO (by have:=z.size;omega) (by omega) ?_
  simp only [aa,seval,gv]
  refine sU [.func g1 u1 v1,.func g2 u2 v2,.func g3 u3 v3] [aO (!kr r.name) 3,aO (aM ((l.take i).map bb.name) r.name) 5,aO true 4] _ _ (tc (i:=0) rfl rfl rfl (by simp)) (by simp) rfl (λi fv e h1 h2=>?_) _ (λh' x=>?_)
  .match i,h1,h2 with
   |0,h1,h2=>cases h1;cases h2;exact r1.lay _ _
   |1,h1,h2=>cases h1;cases h2;exact r2.lay _ _
   |2,h1,h2=>cases h1;cases h2;exact r3.lay _ _
  (((with_reducible refine eu ?_ ?_ ?_);(· exact (by (simp only [ep]);have:=z.size;omega));(· exact x));replace z:=z.aj x;replace q1:=q1.over x;replace r1:=r1.over x;replace r2:=r2.over x;replace r3:=r3.over x;rw [ak h'])
  rw [<- lJ]
  clear r1 r2 r3
  simp only [aa,seval,gv]
  ((with_reducible refine ⟨z.eD.lay _ _,?_⟩);(intro _ h' zz x _);(simp only [dy,cU] at x);replace q1:=q1.over x;(replace z:=zz);(clear zz);rw [ak h'])
  simp only [aa,seval,gv]
  refine gD (λaV=>?_) (λheq=>?_)
  .rw [ay aV] at hk
   simp only [aa,seval,gv]
   exact hk _ z.ao
  .rw [heq] at lJ
   have:=c8.1 lJ.symm 4 (by simp [aO])
   omega
 .have i6:decide (r.arity < 0\/4 < r.arity)=decide (4 < r.arity):=by simp [c1]
  rw [i6] at lJ
  simp only [aa,seval,gv,e0.lay]
  repeat (rw [sR];simp only [aa,seval,gv])
  refine jV _ _ _ _ (λh' f3 x r3=>?_)
  (((with_reducible refine eu ?_ ?_ ?_);(· exact (by (simp only [ep]);have:=z.size;omega));(· exact x));replace z:=z.aj x;replace q1:=q1.over x;replace e0:=e0.over x;replace r1:=r1.over x;replace r2:=r2.over x;rw [ak h'])
  obtain ⟨g1,u1,v1,rfl⟩:=r1.1
  obtain ⟨g2,u2,v2,rfl⟩:=r2.1
  obtain ⟨g3,u3,v3,rfl⟩:=r3.1
  simp only [aa,seval,gv]
  refine yO (by have:=z.size;omega) (by omega) ?_
  simp only [aa,seval,gv]
  refine sU [.func g1 u1 v1,.func g2 u2 v2,.func g3 u3 v3] [aO (!kr r.name) 3,aO (aM ((l.take i).map bb.name) r.name) 5,aO (decide (4 < r.arity)) 4] _ _ (tc (i:=0) rfl rfl rfl (by simp)) (by simp) rfl (λi fv e h1 h2=>?_) _ (λh' x=>?_)
  .match i,h1,h2 with
   |0,h1,h2=>cases h1;cases h2;exact r1.lay _ _
   |1,h1,h2=>cases h1;cases h2;exact r2.lay _ _
   |2,h1,h2=>cases h1;cases h2;exact r3.lay _ _
  (((with_reducible refine eu ?_ ?_ ?_);(· exact (by (simp only [ep]);have:=z.size;omega));(· exact x));replace z:=z.aj x;replace q1:=q1.over x;replace e0:=e0.over x;replace r1:=r1.over x;replace r2:=r2.over x;replace r3:=r3.over x;rw [ak h'])
  rw [<- lJ]
  clear r1 r2 r3
  simp only [aa,seval,gv]
  ((with_reducible refine ⟨z.eD.lay _ _,?_⟩);(intro _ h' zz x _);(simp only [dy,cU] at x);replace q1:=q1.over x;replace e0:=e0.over x;(replace z:=zz);(clear zz);rw [ak h'])
  simp only [aa,seval,gv]
  refine gD (λaV=>?_) (λheq=>?_)
  .rw [ay aV] at hk
   simp only [aa,seval,gv]
   exact hk _ z.ao
  rw [aC heq] at hk
  have C6:h.size<=M:=by omega
  simp only [aa,seval,gv,e0.lay,eo,NT,MR]
  refine NC q1 AX oN (λh3 q3 lH=>?_)
  replace z:=z.cX lH C6 (by omega)
  rw [ak h3]
  simp only [aa,seval,gv]
  rw [hw]
  have htk:(l.take (i+1)).map bb.name=(l.take i).map bb.name++[r.name]:=by rw [wz,bz];simp
  rw [<- htk] at q3
  (rw [aU];with_reducible refine db (m:=_) ?_ ⟨i+1,_,rfl,z,⟨rfl,by omega,q3,by rw [cH,mP bz,aC heq]⟩,bx⟩;omega)
theorem Ax {Z:Type} {r:aQ Z} {h:Heap} {v:ai} {l:List Z} (f:Sl r h v l):∃ a n c,v=.slice a n c:=by
 rcases f with ⟨rfl,_⟩|⟨A,o,c,row,u,ro,rfl,_⟩ <;> exact ⟨_,_,_,rfl⟩
theorem zuC {h:Heap} {v:ai} (f:Sl aQ.str h v l) (i:Nat) (hi:i<=l.length):∃ a n c,kn az 23 v none (some (.int .i64 i)) none=some (.slice a n c)/\Sl aQ.str h (.slice a n c) (l.take i):=by
 obtain ⟨u1,g1,g2⟩:=f.sub (a:=0) (b:=i) (by decide) dp mD (.inl ⟨rfl,rfl⟩) (.inr ⟨.i64,rfl⟩) (by omega) hi
 obtain ⟨a,n,c,rfl⟩:=Ax g2
 exact ⟨a,n,c,g1,by simpa using g2⟩
theorem TH {ps:List aA} {c:ba} (h:c.reads.length < 1\/16 < c.reads.length):lP ps c=4:=aC h
theorem zsF (ps:List aA) (c:ba) (v:ai) (p0 p1 p2 p5 p6:ai) (q b:Int) (h:Heap) (aY:(cN p0 p1 p2 p5 p6 q b).all Am.one=true) (h0:Sl aQ.str h p0 ps) (hs:ps.length<=1000) (hv:Sl aQ.str h v c.reads) (K:aF) (hk:∀ h',Ext h h'->K (.int .i64 (lP ps c)) h'):Ok prog az ov 110 [fS p0 p1 p2 p5 p6 q b,.agg ⟨[.string c.bW,v]⟩] h K:=by
 rw [ak h]
 have z:=Ext.refl h
 have hle:=hv.le
 have b9:∀ (h:Heap) (K:aF),aE (some v) h K=K v h:=λ_ _=>rfl
 have eo:∀ (s:aA) (h:Heap) (K:aF),aE (some (.string s)) h K=K (.string s) h:=λ_ _ _=>rfl
 have cO:=λ(hh:Heap)=>hv.bE dp hh
 refine Ok.au 47 (br BA) ?_
 simp only [aa,seval,dR,iE,b9,cO]
 refine bp (λh1=>?_) (λh1=>?_)
 .rw [TH (.inl (by omega))] at hk
  simp only [aa,seval,dR]
  exact hk _ z.ao
 simp only [aa,seval,dR]
 refine bp (λh2=>?_) (λh2=>?_)
 .rw [TH (.inr (by omega))] at hk
  simp only [aa,seval,dR]
  exact hk _ z.ao
 have tT:lP ps c=dw (λpre w=>eN [aO (!aM ps w) 6,aO (decide (w=c.bW)) 11,aO (aM pre w) 5]) [] c.reads:=ay (by omega)
 rw [tT] at hk
 obtain ⟨F,hF⟩:∃ F:List aA->aA->Int,F=λpre w=>eN [aO (!aM ps w) 6,aO (decide (w=c.bW)) 11,aO (aM pre w) 5]:=⟨_,rfl⟩
 rw [<- hF] at hk
 simp only [aa,seval,dR,b9,cO]
 refine ko (λh' x hq=>?_)
 have q0:=hq 0 _ rfl
 have q1:=hq 1 _ rfl
 clear hq
 (replace z:=z.aj x;rw [ak h'])
 obtain ⟨A0,dA⟩:∃ A0,A0=h.size+0:=⟨_,rfl⟩
 rw [<- dA] at q0
 rw [<- dA]
 obtain ⟨A1,j5⟩:∃ A1,A1=h.size+1:=⟨_,rfl⟩
 rw [<- j5] at q1
 rw [<- j5]
 obtain ⟨I1,aU⟩:∃ I:Nat->Env->Heap->Prop,I=(λn e h'=>∃ (i:Nat) (h1:Heap),h'=h1.lay [] h1.low/\Ext h h1/\(n=c.reads.length - i/\i<=c.reads.length/\Holds h1 A0 (.row (cN p0 p1 p2 p5 p6 q b) 29 false)/\Holds h1 A1 (.row [.string c.bW,v] 69 false)/\dw F [] c.reads=dw F (c.reads.take i) (c.reads.drop i))/\∃ J:Nat->ai,e=(jr J 0 2 (.pointer (some ⟨A0,0,none⟩)::.pointer (some ⟨A1,0,none⟩)::jr J 4 15 (v::.int .i64 c.reads.length::.int .i64 i::jr J 22 27 ([]))))):=⟨_,rfl⟩
 refine dK I1 _ (by rw [aU];exact ⟨0,_,rfl,z,⟨rfl,by omega,q0,q1,rfl⟩,bx⟩) ?_
 intro n e h' aR
 rw [aU] at aR
 obtain ⟨i,b8,rfl,z,hinv,J,rfl⟩:=aR
 clear q0 q1
 obtain ⟨rfl,hi,q0,q1,cH⟩:=hinv
 have hw:=ec i (by omega)
 simp only [aa,seval,dR]
 refine bp (λaS=>?_) (λaS=>?_)
 rotate_left
 .rw [cH,vT (by omega)] at hk
  simp only [aa,seval,dR]
  exact hk _ z.ao
 obtain ⟨r,hr,bz⟩:=fx (l:=c.reads) (i:=i) (by omega)
 rw [cH,mP bz] at hk
 have lJ:F (c.reads.take i) r=eN [aO (!aM ps r) 6,aO (decide (r=c.bW)) 11,aO (aM (c.reads.take i) r) 5]:=by rw [hF]
 obtain ⟨a,m,cc,g1,g2⟩:=zuC hv i hi
 have D7:∀ (h:Heap) (K:aF),aE (some (.slice a m cc)) h K=K (.slice a m cc) h:=λ_ _=>rfl
 simp only [aa,seval,dR]
 repeat' ((first|with_reducible refine sd (hv.mono z.inc) dp mD (by omega) hr (λp hp=>?_)|with_reducible refine iF hp lG ?_) <;> simp only [aa,seval,dR])
 clear hp
 with_reducible first|refine hH (by simp only [dR]) z.ao ?_
 simp only [aa,seval,dR,q0.lay,↓eI,eH,ef]
 refine Aj ps r _ _ _ _ _ _ _ _ ((h0.mono z.inc).lay _ _) hs _ (λh' x=>?_)
 (((with_reducible refine eu ?_ ?_ ?_);(· exact (by (simp only [ep]);have:=z.size;omega));(· exact x));replace z:=z.aj x;replace q0:=q0.over x;replace q1:=q1.over x;rw [ak h'])
 simp only [aa,seval,dR]
 (with_reducible apply bK);(· rfl)
 simp only [aa,seval,dR]
 refine jV _ _ _ _ (λh' f1 x r1=>?_)
 (((with_reducible refine eu ?_ ?_ ?_);(· exact (by (simp only [ep]);have:=z.size;omega));(· exact x));replace z:=z.aj x;replace q0:=q0.over x;replace q1:=q1.over x;rw [ak h'])
 simp only [aa,seval,dR,q1.lay,eo]
 rw [sR]
 simp only [aa,seval,dR]
 refine jV _ _ _ _ (λh' f2 x r2=>?_)
 (((with_reducible refine eu ?_ ?_ ?_);(· exact (by (simp only [ep]);have:=z.size;omega));(· exact x));replace z:=z.aj x;replace q0:=q0.over x;replace q1:=q1.over x;replace r1:=r1.over x;rw [ak h'])
 simp only [aa,seval,dR,q1.lay,b9,g1,D7]
 refine FT (c.reads.take i) _ r _ ((g2.mono z.inc).lay _ _) (by rw [ku];omega) _ (λh' x=>?_)
 (((with_reducible refine eu ?_ ?_ ?_);(· exact (by (simp only [ep]);have:=z.size;omega));(· exact x));replace z:=z.aj x;replace q0:=q0.over x;replace q1:=q1.over x;replace r1:=r1.over x;replace r2:=r2.over x;rw [ak h'])
 simp only [aa,seval,dR]
 refine jV _ _ _ _ (λh' f3 x r3=>?_)
 (((with_reducible refine eu ?_ ?_ ?_);(· exact (by (simp only [ep]);have:=z.size;omega));(· exact x));replace z:=z.aj x;replace q0:=q0.over x;replace q1:=q1.over x;replace r1:=r1.over x;replace r2:=r2.over x;rw [ak h'])
 obtain ⟨k1,u1,v1,rfl⟩:=r1.1
 obtain ⟨k2,u2,v2,rfl⟩:=r2.1
 obtain ⟨k3,u3,v3,rfl⟩:=r3.1
 simp only [aa,seval,dR]
 refine yO (by have:=z.size;omega) (by omega) ?_
 simp only [aa,seval,dR]
 refine sU [.func k1 u1 v1,.func k2 u2 v2,.func k3 u3 v3] [aO (!aM ps r) 6,aO (decide (r=c.bW)) 11,aO (aM (c.reads.take i) r) 5] _ _ (tc (i:=0) rfl rfl rfl (by simp)) (by simp) rfl (λi fv e h1 h2=>?_) _ (λh' x=>?_)
 .match i,h1,h2 with
  |0,h1,h2=>cases h1;cases h2;exact r1.lay _ _
  |1,h1,h2=>cases h1;cases h2;exact r2.lay _ _
  |2,h1,h2=>cases h1;cases h2;exact r3.lay _ _
 (((with_reducible refine eu ?_ ?_ ?_);(· exact (by (simp only [ep]);have:=z.size;omega));(· exact x));replace z:=z.aj x;replace q0:=q0.over x;replace q1:=q1.over x;replace r1:=r1.over x;replace r2:=r2.over x;replace r3:=r3.over x;rw [ak h'])
 rw [<- lJ]
 clear r1 r2 r3
 simp only [aa,seval,dR]
 ((with_reducible refine ⟨z.eD.lay _ _,?_⟩);(intro _ h' zz x _);(simp only [dy,cU] at x);replace q0:=q0.over x;replace q1:=q1.over x;(replace z:=zz);(clear zz);rw [ak h'])
 simp only [aa,seval,dR]
 refine gD (λaV=>?_) (λheq=>?_)
 .rw [ay aV] at hk
  simp only [aa,seval,dR]
  exact hk _ z.ao
 rw [aC heq] at hk
 simp only [aa,seval,dR]
 rw [hw]
 (rw [aU];with_reducible refine db (m:=_) ?_ ⟨i+1,_,rfl,z,⟨rfl,by omega,q0,q1,by rw [cH,mP bz,aC heq]⟩,bx⟩;omega)
theorem zqo (ps:List aA) (c:ba) (v:ai) (p0 p1 p2 p5 p6:ai) (q b:Int) (A B:Nat) (h:Heap) (aY:(cN p0 p1 p2 p5 p6 q b).all Am.one=true) (h0:Sl aQ.str h p0 ps) (hs:ps.length<=1000) (hv:Sl aQ.str h v c.reads) (q0:Holds h A (.row (cN p0 p1 p2 p5 p6 q b) 29 false)) (q1:Holds h B (.row [.string c.bW,v] 69 false)) (K:aF) (hk:∀ h',Ext h h'->K (.int .i64 (lP ps c)) h'):Ok prog az ov 109 [.pointer (some ⟨A,0,none⟩),.pointer (some ⟨B,0,none⟩)] h K:=by
 rw [ak h]
 have z:=Ext.refl h
 refine Ok.au 4 (br Bz) ?_
 simp only [aa,seval,Cy,q0.lay,q1.lay,↓eI,eH,ef]
 refine zsF ps c v _ _ _ _ _ _ _ _ aY (h0.lay _ _) hs (hv.lay _ _) _ (λh' x=>?_)
 (replace z:=z.aj x;rw [ak h'])
 simp only [aa,seval,Cy]
 exact hk _ z.ao
theorem zyZ (h:Heap) (l:List bd) (w i o:Nat) (v:ai) (hi:i < l.length):gm az 69 (.pointer (some ⟨h.size+i,o,none⟩)) v (h.lay l w)=if v.cells.size=2 then oF l[i]? i o v.cells.toList h l w else none:=si km h l w i o v hi
theorem zqp (d:aD) (p0 p1 p2 p5 p6:ai) (q b:Int) (h:Heap) (aY:(cN p0 p1 p2 p5 p6 q b).all Am.one=true) (h0:Sl aQ.str h p0 d.ah) (h2:Sl aQ.clear h p2 d.aN) (hs:d.ah.length<=1000) (iT:d.aN.length<=1000) (K:aF) (hk:∀ h',Ext h h'->K (.int .i64 (r6 d.ah d.aN)) h'):Ok prog az ov 64 [fS p0 p1 p2 p5 p6 q b] h K:=by
 rw [ak h]
 have z:=Ext.refl h
 have b9:∀ (h:Heap) (K:aF),aE (some p2) h K=K p2 h:=λ_ _=>rfl
 have eo:∀ (s:aA) (h:Heap) (K:aF),aE (some (.string s)) h K=K (.string s) h:=λ_ _ _=>rfl
 have cO:=λ(hh:Heap)=>h2.bE jg hh
 obtain ⟨F,hF⟩:∃ F:List ba->ba->Int,F=λpre c=>eN [aO (!aM d.ah c.bW) 6,aO (aM (pre.map ba.bW) c.bW) 5,lP d.ah c]:=⟨_,rfl⟩
 have tT:r6 d.ah d.aN=dw F [] d.aN:=by rw [hF];rfl
 rw [tT] at hk
 refine Ok.au 42 (br Pq) ?_
 simp only [aa,seval,lV,Np,iE,mz,b9,cO]
 refine ko (λh' x hq=>?_)
 have q0:=hq 0 _ rfl
 have q1:=hq 1 _ rfl
 clear hq
 (replace z:=z.aj x;rw [ak h'])
 obtain ⟨A0,dA⟩:∃ A0,A0=h.size+0:=⟨_,rfl⟩
 rw [<- dA] at q0
 rw [<- dA]
 obtain ⟨M,hM⟩:∃ M,M=h.size+1:=⟨_,rfl⟩
 rw [<- hM] at q1
 rw [<- hM]
 have Vl:A0≠M:=by omega
 obtain ⟨I1,aU⟩:∃ I:Nat->Env->Heap->Prop,I=(λn e h'=>∃ (i:Nat) (h1:Heap),h'=h1.lay [] h1.low/\Ext h h1/\(n=d.aN.length - i/\i<=d.aN.length/\Holds h1 A0 (.row (cN p0 p1 p2 p5 p6 q b) 29 false)/\ey Value.string h1 M ((d.aN.take i).map ba.bW)/\dw F [] d.aN=dw F (d.aN.take i) (d.aN.drop i))/\∃ J:Nat->ai,e=(J 0::.pointer (some ⟨A0,0,none⟩)::J 2::.map (some M)::jr J 4 7 (p2::.int .i64 d.aN.length::.int .i64 i::jr J 14 29 ([])))):=⟨_,rfl⟩
 refine dK I1 _ (by rw [aU];exact ⟨0,_,rfl,z,⟨rfl,by omega,q0,ey.new q1,rfl⟩,bx⟩) ?_
 intro n e h' aR
 rw [aU] at aR
 obtain ⟨i,b8,rfl,z,hinv,J,rfl⟩:=aR
 clear q0 q1
 obtain ⟨rfl,hi,q0,q1,cH⟩:=hinv
 have hw:=ec i (by omega)
 simp only [aa,seval,lV]
 refine bp (λaS=>?_) (λaS=>?_)
 rotate_left
 .rw [cH,vT (by omega)] at hk
  simp only [aa,seval,lV]
  exact hk _ z.ao
 obtain ⟨r,hr,bz⟩:=fx (l:=d.aN) (i:=i) (by omega)
 rw [cH,mP bz] at hk
 have lJ:F (d.aN.take i) r=eN [aO (!aM d.ah r.bW) 6,aO (aM ((d.aN.take i).map ba.bW) r.bW) 5,lP d.ah r]:=by rw [hF]
 simp only [aa,seval,lV]
 refine AZ (h2.mono z.inc) jg km (by omega) hr (λp v hv hp=>?_)
 have Qm:Am.one v=true:=hv.one
 obtain ⟨av,nv,cv,rfl⟩:=Ax hv
 repeat' (first|simp only [aa,seval,lV]|with_reducible refine Ee hp wP km ?_)
 simp only [aa,seval,lV,i7,kS,mL,Am.one,jM,iZ,zyZ,ND,eo]
 refine M3 q1 AX oN OC ?_
 simp only [aa,seval,lV]
 rw [sR]
 simp only [aa,seval,lV,i7,mL,jM,iZ,List.set_cons_succ,Oi]
 clear hp
 simp only [aa,seval,lV,q0.lay,eo,↓eI,eH,ef]
 refine Aj d.ah r.bW _ _ _ _ _ _ _ _ ((h0.mono z.inc).lay _ _) hs _ (λh' x=>?_)
 have e0:=Holds.top (i:=0) x rfl
 (replace z:=z.aj x;replace q0:=q0.over x;replace q1:=q1.over x;replace hv:=hv.over x;rw [ak h'])
 obtain ⟨E0,lI⟩:∃ E0,E0=b8.size+0:=⟨_,rfl⟩
 rw [<- lI] at e0
 rw [<- lI]
 simp only [aa,seval,lV]
 (with_reducible apply bK);(· rfl)
 simp only [aa,seval,lV]
 refine jV _ _ _ _ (λh' f1 x r1=>?_)
 (replace z:=z.aj x;replace q0:=q0.over x;replace q1:=q1.over x;replace e0:=e0.over x;replace hv:=hv.over x;rw [ak h'])
 simp only [aa,seval,lV]
 refine jV _ _ _ _ (λh' f2 x r2=>?_)
 (replace z:=z.aj x;replace q0:=q0.over x;replace q1:=q1.over x;replace e0:=e0.over x;replace hv:=hv.over x;replace r1:=r1.over x;rw [ak h'])
 have r3:dE h' (.func (.func 109) ⟨[]⟩ ⟨[.pointer (some ⟨A0,0,none⟩),.pointer (some ⟨E0,0,none⟩)]⟩) (lP d.ah r):=⟨⟨_,_,_,rfl⟩,λhc K2 y gz=>by
  rw [oz]
  exact zqo d.ah r _ _ _ _ _ _ _ _ A0 E0 hc aY ((h0.mono z.inc).mono y.all) hs (hv.mono y.all) (Holds.eh q0 y) (Holds.eh e0 y) K2 gz⟩
 obtain ⟨k1,u1,v1,rfl⟩:=r1.1
 obtain ⟨k2,u2,v2,rfl⟩:=r2.1
 simp only [aa,seval,lV]
 refine sU [.func k1 u1 v1,.func k2 u2 v2,.func (.func 109) ⟨[]⟩ ⟨[.pointer (some ⟨A0,0,none⟩),.pointer (some ⟨E0,0,none⟩)]⟩] [aO (!aM d.ah r.bW) 6,aO (aM ((d.aN.take i).map ba.bW) r.bW) 5,lP d.ah r] _ _ (tc (i:=0) rfl rfl rfl (by simp)) (by simp) rfl (λi fv e h1 h2=>?_) _ (λh' x=>?_)
 .match i,h1,h2 with
  |0,h1,h2=>cases h1;cases h2;exact r1.lay _ _
  |1,h1,h2=>cases h1;cases h2;exact r2.lay _ _
  |2,h1,h2=>cases h1;cases h2;exact r3.lay _ _
 (replace z:=z.aj x;replace q0:=q0.over x;replace q1:=q1.over x;replace e0:=e0.over x;replace hv:=hv.over x;replace r1:=r1.over x;replace r2:=r2.over x;rw [ak h'])
 rw [<- lJ]
 clear r1 r2 r3
 simp only [aa,seval,lV]
 refine gD (λaV=>?_) (λheq=>?_)
 .rw [ay aV] at hk
  simp only [aa,seval,lV]
  exact hk _ z.ao
 rw [aC heq] at hk
 have C6:h.size<=M:=by omega
 simp only [aa,seval,lV,e0.lay,eo,NT,MR]
 refine NC q1 AX oN (λh3 q3 lH=>?_)
 replace z:=z.cX lH C6 (by omega)
 replace q0:=q0.bG lH Vl
 rw [ak h3]
 simp only [aa,seval,lV]
 rw [hw]
 have htk:(d.aN.take (i+1)).map ba.bW=(d.aN.take i).map ba.bW++[r.bW]:=by rw [wz,bz];simp
 rw [<- htk] at q3
 (rw [aU];with_reducible refine db (m:=_) ?_ ⟨i+1,_,rfl,z,⟨rfl,by omega,q0,q3,by rw [cH,mP bz,aC heq]⟩,bx⟩;omega)
theorem TJ (a:ae):a.val.cells.size=11:=rfl
theorem Tg (a:ae):a.cells.length=11:=rfl
theorem TB (a:ae):a.cells.all Am.one=true:=rfl
theorem ZO {d:aD} (h:d.cB < 0\/1000 < d.cB\/d.bO < 1\/1048576 < d.bO\/64 < d.rules.length+d.aP.length):uB d=aO true 4:=by
 unfold uB
 congr 1
 simp only [nY,jW]
 omega
theorem YO {d:aD} (h:¬ (d.cB < 0\/1000 < d.cB\/d.bO < 1\/1048576 < d.bO\/64 < d.rules.length+d.aP.length)):uB d=aO false 4:=by
 unfold uB
 congr 1
 simp only [Bool.or_eq_false_iff,decide_eq_false_iff_not]
 omega
theorem ZQ (d:aD) (p0 p1 p2 p5 p6:ai) (q b:Int) (h:Heap) (hq:d.cB=q) (hb:d.bO=b) (h5:Sl aQ.clause h p5 d.rules) (h6:Sl aQ.lX h p6 d.aP) (Wu:d.rules.length<=1000) (Wv:d.aP.length<=1000) (K:aF) (hk:∀ h',Ext h h'->K (.int .i64 (uB d)) h'):Ok prog az ov 65 [fS p0 p1 p2 p5 p6 q b] h K:=by
 rw [ak h]
 have z:=Ext.refl h
 have pc:∀ (h:Heap) (K:aF),aE (some p5) h K=K p5 h:=λ_ _=>rfl
 have pZ:∀ (h:Heap) (K:aF),aE (some p6) h K=K p6 h:=λ_ _=>rfl
 have sI:=λ(hh:Heap)=>h5.bE jh hh
 have rm:=λ(hh:Heap)=>h6.bE j3 hh
 have hw:IntKind.i64.wrap ((d.rules.length:Int)+(d.aP.length:Int))=((d.rules.length+d.aP.length:Nat):Int):=by rw [wrap_i64 (by omega) (by omega)];omega
 refine Ok.au 38 (br Pr) ?_
 simp only [aa,seval,GW,iE,yE]
 repeat' ((with_reducible refine bp (λ_=>?_) (λ_=>?_)) <;> simp only [aa,seval,GW,yE,En,ki,lu,pc,pZ,sI,rm,hw])
 all_goals
  refine jV _ _ _ _ (λh' f1 x r1=>?_)
  (replace z:=z.aj x;rw [ak h'])
  obtain ⟨k1,u1,v1,rfl⟩:=r1.1
  simp only [aa,seval,GW]
  refine r1.2 _ _ (jO.lay _ _ _ _) (λh' x=>?_)
  (replace z:=z.aj x;rw [ak h'])
  first
   |rw [ZO (by omega)] at hk
   |rw [YO (by omega)] at hk
  simp only [aa,seval,GW]
  exact hk _ z.ao
theorem zql (d:aD) (a:ae) (p0 p1 p2 p5 p6:ai) (q b:Int) (A B:Nat) (h:Heap) (bJ:aI 1 h) (aY:(cN p0 p1 p2 p5 p6 q b).all Am.one=true) (h0:Sl aQ.str h p0 d.ah) (h1:Sl aQ.pred h p1 d.bo) (hs:d.ah.length<=1000) (q0:Holds h A (.row (cN p0 p1 p2 p5 p6 q b) 29 false)) (q1:Holds h B (.row a.cells 41 false)) (K:aF) (hk:∀ h',Ext h h'->K (.int .i64 (ek d a)) h'):Ok prog az ov 173 [.pointer (some ⟨A,0,none⟩),.pointer (some ⟨B,0,none⟩)] h K:=by
 rw [ak h]
 have z:=Ext.refl h
 refine Ok.au 4 (br BZ) ?_
 simp only [aa,seval,CH,q0.lay,q1.lay,↓eI,eH,ef,↓eZ,dO,dx]
 refine Ig d a _ _ _ _ _ _ _ _ (bJ.lay _ _) aY (h0.lay _ _) (h1.lay _ _) hs _ (λh' x=>?_)
 (replace z:=z.aj x;rw [ak h'])
 simp only [aa,seval,CH]
 exact hk _ z.ao
theorem zqm (d:aD) (l:cR) (v:ai) (p0 p1 p2 p5 p6:ai) (q b:Int) (A B:Nat) (h:Heap) (bJ:aI 1 h) (aY:(cN p0 p1 p2 p5 p6 q b).all Am.one=true) (h0:Sl aQ.str h p0 d.ah) (h1:Sl aQ.pred h p1 d.bo) (hs:d.ah.length<=1000) (hl:Sl aQ.atom h v l) (iT:l.length<=1000) (q0:Holds h A (.row (cN p0 p1 p2 p5 p6 q b) 29 false)) (q1:Holds h B (.row [v] 50 false)) (K:aF) (hk:∀ h',Ext h h'->K (.int .i64 (uM d l)) h'):Ok prog az ov 174 [.pointer (some ⟨B,0,none⟩),.pointer (some ⟨A,0,none⟩)] h K:=by
 rw [ak h]
 have z:=Ext.refl h
 have b9:∀ (h:Heap) (K:aF),aE (some v) h K=K v h:=λ_ _=>rfl
 have cO:=λ(hh:Heap)=>hl.bE gw hh
 obtain ⟨F,hF⟩:∃ F:cR->ae->Int,F=λ_ a=>ek d a:=⟨_,rfl⟩
 have tT:uM d l=dw F [] l:=by rw [hF];rfl
 rw [tT] at hk
 refine Ok.au 17 (br B0) ?_
 simp only [aa,seval,k5,q1.lay,b9,cO]
 obtain ⟨I1,aU⟩:∃ I:Nat->Env->Heap->Prop,I=(λn e h'=>∃ (i:Nat) (h1:Heap),h'=h1.lay [] h1.low/\Ext h h1/\(n=l.length - i/\i<=l.length/\Holds h1 A (.row (cN p0 p1 p2 p5 p6 q b) 29 false)/\dw F [] l=dw F (l.take i) (l.drop i))/\∃ J:Nat->ai,e=(J 0::.pointer (some ⟨A,0,none⟩)::jr J 2 4 (v::.int .i64 l.length::.int .i64 i::jr J 9 10 ([])))):=⟨_,rfl⟩
 refine dK I1 _ (by rw [aU];exact ⟨0,_,rfl,z,⟨rfl,by omega,q0,rfl⟩,bx⟩) ?_
 intro n e h' aR
 rw [aU] at aR
 obtain ⟨i,b8,rfl,z,hinv,J,rfl⟩:=aR
 clear q0
 obtain ⟨rfl,hi,q0,cH⟩:=hinv
 have hw:=ec i (by omega)
 simp only [aa,seval,k5]
 refine bp (λaS=>?_) (λaS=>?_)
 rotate_left
 .rw [cH,vT (by omega)] at hk
  simp only [aa,seval,k5]
  exact hk _ z.ao
 obtain ⟨r,hr,bz⟩:=fx (l:=l) (i:=i) (by omega)
 rw [cH,mP bz] at hk
 have lJ:F (l.take i) r=ek d r:=by rw [hF]
 simp only [aa,seval,k5]
 repeat' ((first|with_reducible refine Gw (hl.mono z.inc) gw dv (by omega) hr (λp hp=>?_)|with_reducible refine vJ hp kV dv ?_) <;> simp only [aa,seval,k5])
 clear hp
 simp only [aa,seval,k5,i7,jM,iZ,rV,TJ,Tg,TB,q0.lay,↓eI,eH,ef,e9,↓eZ,dO,dx]
 refine Ig d r _ _ _ _ _ _ _ _ ((bJ.ext z).lay _ _) aY ((h0.mono z.inc).lay _ _) ((h1.mono z.inc).lay _ _) hs _ (λh' x=>?_)
 (replace z:=z.aj x;replace q0:=q0.over x;rw [ak h'])
 rw [<- lJ]
 simp only [aa,seval,k5]
 refine gD (λaV=>?_) (λheq=>?_)
 .rw [ay aV] at hk
  simp only [aa,seval,k5]
  exact hk _ z.ao
 rw [aC heq] at hk
 simp only [aa,seval,k5]
 rw [hw]
 (rw [aU];with_reducible refine db (m:=_) ?_ ⟨i+1,_,rfl,z,⟨rfl,by omega,q0,by rw [cH,mP bz,aC heq]⟩,bx⟩;omega)
theorem SR (d:aD) (a:ae) (l:cR) (v:ai) (p0 p1 p2 p5 p6:ai) (q b:Int) (h:Heap) (bJ:aI 1 h) (aY:(cN p0 p1 p2 p5 p6 q b).all Am.one=true) (h0:Sl aQ.str h p0 d.ah) (h1:Sl aQ.pred h p1 d.bo) (hs:d.ah.length<=1000) (hl:Sl aQ.atom h v l) (iT:l.length<=1000) (K:aF) (hk:∀ h',Ext h h'->K (.int .i64 (ic d a l)) h'):Ok prog az ov 112 [fS p0 p1 p2 p5 p6 q b,a.val,v] h K:=by
 rw [ak h]
 have z:=Ext.refl h
 have b9:∀ (h:Heap) (K:aF),aE (some v) h K=K v h:=λ_ _=>rfl
 have cO:=λ(hh:Heap)=>hl.bE gw hh
 obtain ⟨av,nv,cv,rfl⟩:=Ax hl
 refine Ok.au 12 (br BC) ?_
 simp only [aa,seval,tl,iE,e9,b9,cO]
 rw [sR]
 simp only [aa,seval,tl]
 refine jV _ _ _ _ (λh' f1 x r1=>?_)
 have q0:=Holds.top (i:=0) x rfl
 have q1:=Holds.top (i:=1) x rfl
 have q2:=Holds.top (i:=2) x rfl
 (replace z:=z.aj x;rw [ak h'])
 obtain ⟨A0,dA⟩:∃ A0,A0=h.size+0:=⟨_,rfl⟩
 rw [<- dA] at q0
 rw [<- dA]
 obtain ⟨A1,j5⟩:∃ A1,A1=h.size+1:=⟨_,rfl⟩
 rw [<- j5] at q1
 rw [<- j5]
 obtain ⟨A2,PQ⟩:∃ A2,A2=h.size+2:=⟨_,rfl⟩
 rw [<- PQ] at q2
 rw [<- PQ]
 have r0:dE h' (.func (.func 173) ⟨[]⟩ ⟨[.pointer (some ⟨A0,0,none⟩),.pointer (some ⟨A1,0,none⟩)]⟩) (ek d a):=⟨⟨_,_,_,rfl⟩,λhc K2 y gz=>by
  rw [oz]
  exact zql d a _ _ _ _ _ _ _ A0 A1 hc (Holds.eh (bJ.ext z) y) aY ((h0.mono z.inc).mono y.all) ((h1.mono z.inc).mono y.all) hs (Holds.eh q0 y) (Holds.eh q1 y) K2 gz⟩
 have r2:dE h' (.func (.func 174) ⟨[]⟩ ⟨[.pointer (some ⟨A2,0,none⟩),.pointer (some ⟨A0,0,none⟩)]⟩) (uM d l):=⟨⟨_,_,_,rfl⟩,λhc K2 y gz=>by
  rw [oz]
  exact zqm d l _ _ _ _ _ _ _ _ A0 A2 hc (Holds.eh (bJ.ext z) y) aY ((h0.mono z.inc).mono y.all) ((h1.mono z.inc).mono y.all) hs ((hl.mono z.inc).mono y.all) iT (Holds.eh q0 y) (Holds.eh q2 y) K2 gz⟩
 obtain ⟨k1,u1,v1,rfl⟩:=r1.1
 simp only [aa,seval,tl]
 refine sU [.func (.func 173) ⟨[]⟩ ⟨[.pointer (some ⟨A0,0,none⟩),.pointer (some ⟨A1,0,none⟩)]⟩,.func k1 u1 v1,.func (.func 174) ⟨[]⟩ ⟨[.pointer (some ⟨A2,0,none⟩),.pointer (some ⟨A0,0,none⟩)]⟩] [ek d a,aO (decide (6 < l.length)) 4,uM d l] _ _ (tc (i:=0) rfl rfl rfl (by simp)) (by simp) rfl (λi fv e h1 h2=>?_) _ (λh' x=>?_)
 .match i,h1,h2 with
  |0,h1,h2=>cases h1;cases h2;exact r0.lay _ _
  |1,h1,h2 =>
   cases h1;cases h2
   have e:decide (6 < l.length)=decide ((l.length:Int) > 6):=by rw [Bool.eq_iff_iff,decide_eq_true_iff,decide_eq_true_iff];omega
   rw [e]
   exact r1.lay _ _
  |2,h1,h2=>cases h1;cases h2;exact r2.lay _ _
 (replace z:=z.aj x;replace q0:=q0.over x;replace q1:=q1.over x;replace q2:=q2.over x;replace r1:=r1.over x;rw [ak h'])
 simp only [aa,seval,tl]
 exact hk _ z.ao
theorem NV (a:ae) (v:ai):(a.cells++[v])[11]? = some v:=rfl
theorem US (a:ae) (v:ai):cut (a.cells++[v]) 0 11=some a.cells:=rfl
theorem zy0:zl az 23 23=true:=by kernel_rfl
theorem YQ (l:List aA) (v fv:ai) (pr:aA->Bool) (h:Heap) (hl:Sl aQ.str h v l) (hs:l.length<=1000) (yd:∀ (x:aA) (hc:Heap) (K:aF),Ext h hc->(∀ h',Ext hc h'->K (.bool (pr x)) h')->qh prog az ov [.string x] hc K fv) (K:aF)
 (hk:∀ h',Ext h h'->K (.int .i64 (ka pr l)) h'):Ok prog az ov 217 [v,fv] h K:=by
 rw [ak h]
 have z:=Ext.refl h
 have cO:=λ(hh:Heap)=>hl.bE dp hh
 refine Ok.au 17 (br Cc) ?_
 simp only [aa,seval,na,cO]
 obtain ⟨I1,aU⟩:∃ I:Nat->Env->Heap->Prop,I=(λn e h'=>∃ (i:Nat) (h1:Heap),h'=h1.lay [] h1.low/\Ext h h1/\(n=l.length - i/\i<=l.length/\∀ x∈l.take i,pr x=false)/\∃ J:Nat->ai,e=(v::fv::jr J 2 5 (.int .i64 l.length::.int .i64 i::jr J 9 10 ([])))):=⟨_,rfl⟩
 refine dK I1 _ (by rw [aU];exact ⟨0,_,rfl,z,⟨rfl,by omega,by simp⟩,bx⟩) ?_
 intro n e h' aR
 rw [aU] at aR
 obtain ⟨i,b8,rfl,z,hinv,J,rfl⟩:=aR
 obtain ⟨rfl,hi,aq⟩:=hinv
 have hw:=ec i (by omega)
 simp only [aa,seval,na]
 refine bp (λaS=>?_) (λaS=>?_)
 rotate_left
 .rw [i9 (by omega)] at aq
  have:=Ns aq
  rw [this] at hk
  simp only [aa,seval,na]
  exact hk _ z.ao
 obtain ⟨r,hr,bz⟩:=fx (l:=l) (i:=i) (by omega)
 simp only [aa,seval,na]
 repeat' ((first|with_reducible refine sd (hl.mono z.inc) dp mD (by omega) hr (λp hp=>?_)|with_reducible refine iF hp lG ?_) <;> simp only [aa,seval,na])
 refine yd _ _ _ z.ao (λh' x=>?_)
 (replace z:=z.aj x;rw [ak h'])
 clear hp
 cases hx:pr r
 rotate_left
 .simp only [aa,seval,na]
  have:=Ni bz aq hx
  rw [this] at hk
  exact hk _ z.ao
 .simp only [aa,seval,na]
  rw [hw]
  (rw [aU];with_reducible refine db (m:=_) ?_ ⟨i+1,_,rfl,z,⟨rfl,by omega,mS (i:=i) (P:=λx:aA=>pr x=false) bz aq hx⟩,bx⟩;omega)
theorem XE (l:List aA) (v fv:ai) (pr:aA->Bool) (h:Heap) (hl:Sl aQ.str h v l) (hs:l.length<=1000) (yd:∀ (x:aA) (hc:Heap) (K:aF),Ext h hc->(∀ h',Ext hc h'->K (.bool (pr x)) h')->qh prog az ov [.string x] hc K fv) (K:aF)
 (hk:∀ h',Ext h h'->K (.bool (l.any pr)) h'):Ok prog az ov 176 [v,fv] h K:=by
 refine Ok.au 7 (br B2) ?_
 simp only [aa,seval,wZ]
 refine YQ l v fv pr h hl hs yd _ (λh' x=>?_)
 simp only [aa,seval,wZ,Og]
 refine I6 (λhh=>?_) (λhh=>?_)
 all_goals
  simp only [aa,seval,wZ]
  rw [hh] at hk
  exact hk _ x
theorem zqy (l:List aA) (s:aA) (w:ai) (C:Nat) (h:Heap) (q:Holds h C (.row [w] 23 false)) (hl:Sl aQ.str h w l) (hs:l.length<=1000) (K:aF) (hk:∀ h',Ext h h'->K (.bool (!aM l s)) h'):Ok prog az ov 177 [.string s,.pointer (some ⟨C,0,none⟩)] h K:=by
 rw [ak h]
 have z:=Ext.refl h
 have D7:∀ (h:Heap) (K:aF),aE (some w) h K=K w h:=λ_ _=>rfl
 refine Ok.au 6 (br B3) ?_
 simp only [aa,seval,w5,q.lay,D7]
 refine FT l w s _ (hl.lay _ _) hs _ (λh' x=>?_)
 (replace z:=z.aj x;rw [ak h'])
 simp only [aa,seval,w5]
 (with_reducible apply bK);(· rfl)
 simp only [aa,seval,w5]
 exact hk _ z.ao
open Classical in
theorem zqK {c:bA} {m:List aA} (hl:∀ x,x∈l↔gi c.head x) (hm:∀ x,x∈m↔∃ a∈c.body,gi a x):uG c=aO (l.any λv => !aM m v) 9:=by
 unfold uG
 congr 1
 rw [Bool.eq_iff_iff,decide_eq_true_iff,oI]
 constructor
 .rintro ⟨x,h1,h2⟩
  refine ⟨x,(hl x).2 h1,?_⟩
  have:aM m x=false:=Bool.eq_false_iff.2 (λhh=>by
   obtain ⟨a,ha,hv⟩:=(hm x).1 (cG.1 hh)
   exact h2 a ha hv)
  rw [this];rfl
 .rintro ⟨x,h1,h2⟩
  refine ⟨x,(hl x).1 h1,λa ha hv=>?_⟩
  have:aM m x=true:=cG.2 ((hm x).2 ⟨a,ha,hv⟩)
  rw [this] at h2
  simp at h2
theorem zqz (c:bA) (v:ai) (h:Heap) (hl:Sl aQ.atom h v c.body) (hs:c.body.length<=200) (K:aF) (hk:∀ h',Ext h h'->K (.int .i64 (uG c)) h'):Ok prog az ov 114 [.agg ⟨c.head.cells++[v]⟩] h K:=by
 rw [ak h]
 have z:=Ext.refl h
 have b9:∀ (h:Heap) (K:aF),aE (some v) h K=K v h:=λ_ _=>rfl
 have cO:=λ(hh:Heap)=>hl.bE gw hh
 refine Ok.au 26 (br BE) ?_
 simp only [aa,seval,fT,NV,b9,cO]
 refine ko (λh' x hq=>?_)
 have q0:=hq 0 _ rfl
 have q1:=hq 1 _ rfl
 clear hq
 (replace z:=z.aj x;rw [ak h'])
 obtain ⟨A0,dA⟩:∃ A0,A0=h.size+0:=⟨_,rfl⟩
 rw [<- dA] at q0
 rw [<- dA]
 obtain ⟨C,hC⟩:∃ C,C=h.size+1:=⟨_,rfl⟩
 rw [<- hC] at q1
 rw [<- hC]
 obtain ⟨I1,aU⟩:∃ I:Nat->Env->Heap->Prop,I=(λn e h'=>∃ (i:Nat) (wv:ai) (A:Nat) (jl:List aA) (h1:Heap),h'=h1.lay [] h1.low/\Ext h h1/\(n=c.body.length - i/\i<=c.body.length/\Holds h1 A0 (.row (c.head.cells++[v]) 71 false)/\Holds h1 C (.row [wv] 23 false)/\Ow aQ.str h h1 9 A wv jl/\C < A/\jl.length<=4*i/\(∀ x,x∈jl↔∃ a∈c.body.take i,gi a x))/\∃ J:Nat->ai,e=(J 0::.pointer (some ⟨A0,0,none⟩)::J 2::.pointer (some ⟨C,0,none⟩)::jr J 4 4 (v::.int .i64 c.body.length::.int .i64 i::jr J 11 16 ([])))):=⟨_,rfl⟩
 refine dK I1 _ (by rw [aU];exact ⟨0,.slice none 0 0,C+1,[],_,rfl,z,⟨rfl,by omega,q0,q1,Ow.nil (by omega),by omega,by simp,by simp⟩,bx⟩) ?_
 intro n e h' aR
 rw [aU] at aR
 obtain ⟨i,wv,A,jl,b8,rfl,z,hinv,J,rfl⟩:=aR
 clear q0 q1
 obtain ⟨rfl,hi,q0,q1,ow,hCA,hhl,cS⟩:=hinv
 have hw:=ec i (by omega)
 have D7:∀ (h:Heap) (K:aF),aE (some wv) h K=K wv h:=λ_ _=>rfl
 simp only [aa,seval,fT]
 refine bp (λaS=>?_) (λaS=>?_)
 .obtain ⟨r,hr,bz⟩:=fx (l:=c.body) (i:=i) (by omega)
  simp only [aa,seval,fT]
  repeat' ((first|with_reducible refine Gw (hl.mono z.inc) gw dv (by omega) hr (λp hp=>?_)|with_reducible refine vJ hp kV dv ?_) <;> simp only [aa,seval,fT])
  clear hp
  simp only [aa,seval,fT,i7,jM,iZ,rV,e9,TJ,Tg,TB]
  with_reducible first|refine hH (by simp only [fT]) z.ao ?_
  simp only [aa,seval,fT,q1.lay,D7,↓eZ,dO,dx]
  refine TP r _ _ (λw2 l2 h' x s2 kH iJ=>?_)
  (((with_reducible refine eu ?_ ?_ ?_);(· exact (by (simp only [ep]);have:=z.size;omega));(· exact x));replace z:=z.aj x;replace q0:=q0.over x;replace q1:=q1.over x;replace ow:=ow.over x;rw [ak h'])
  have Mc:∀ (h:Heap) (K:aF),aE (some w2) h K=K w2 h:=λ_ _=>rfl
  simp only [gf,seval,fT,F7,zy0]
  have hz:=z.size
  have gF:=ow.fresh
  have hq1:=q1.lt
  obtain ⟨news,yi,LY⟩:=zxm (A:=A) (r:=aQ.str) (by decide) (s2.lay [] (h'.size+0)) (λcs y hr=>hr)
  obtain ⟨w3,h3,A3,g1,o3,lH,g4,g5⟩:=Ox (t:=23) dp H5 rfl (by decide) (by rw [cF];omega) (ow.mono (dz.lay _ _ _)) yi LY (by omega) (by omega)
  rw [g1]
  have zL:C < A3:=by
   rcases g4 with e|e
   .omega
   .rw [cF] at e;omega
  refine rY (A:=A) (by kernel_rfl) (by rw [cF];omega) (by omega) (by simpa only [dy,cF,cU,nW,jb,iN] using lH) ?_
  replace q0:=q0.bG lH (by omega)
  replace q1:=q1.bG lH (by omega)
  replace z:=(z.mO [] (h'.size+0) (by omega)).step lH (by omega)
  clear ow s2
  rw [ak h3]
  have Qn:Am.one w3=true:=(o3.sl (by decide)).one
  obtain ⟨a3,n3,c3,rfl⟩:=Ax (o3.sl (by decide))
  simp only [aa,seval,fT]
  refine zsZ q1 MA rfl rfl rfl (λh4 q4 c4=>?_)
  have Af:=z.size
  replace q4:Holds h4 C (.row [.slice a3 n3 c3] 23 false):=q4
  refine rY (A:=C) (by kernel_rfl) (by rw [cF];omega) (by omega) (by simpa only [dy,cF,cU,nW,jb,iN] using c4) ?_
  replace q0:=q0.bG c4 (by omega)
  replace o3:=(o3.mono (dz.lay h3 [] (h3.size+0))).turn (λ_ _ _ _ h=>h) c4 (by omega) q4
  replace z:=(z.mO [] (h3.size+0) (by omega)).step c4 (by omega)
  clear q1
  rw [ak h4]
  simp only [gf,seval,fT]
  ((with_reducible refine ⟨z.eD.lay _ _,?_⟩);(intro _ h' zz x _);(simp only [dy,cU] at x);replace q0:=q0.over x;replace q4:=q4.over x;replace o3:=o3.over x;(replace z:=zz);(clear zz);rw [ak h'])
  simp only [aa,seval,fT]
  rw [hw]
  have htk:c.body.take (i+1)=c.body.take i++[r]:=by rw [wz,bz];rfl
  (rw [aU];with_reducible refine db (m:=_) ?_ ⟨i+1,.slice a3 n3 c3,A3,jl++l2,_,rfl,z,⟨rfl,by omega,q0,q4,o3,zL,by rw [hJ];omega,λx=>by rw [pM,cS,iJ,htk];simp [or_and_right,exists_or]⟩,bx⟩;omega)
 .rw [i9 (by omega)] at cS
  simp only [aa,seval,fT,q0.lay,↓US,dO,dx]
  have sh:=ow.sl (by decide)
  clear ow
  refine TP c.head _ _ (λw2 l2 h' x s2 kH iJ=>?_)
  (replace z:=z.aj x;replace q1:=q1.over x;replace sh:=sh.over x;rw [ak h'])
  have Mc:∀ (h:Heap) (K:aF),aE (some w2) h K=K w2 h:=λ_ _=>rfl
  simp only [aa,seval,fT]
  refine XE l2 w2 _ (λv => !aM jl v) _ (s2.lay _ _) (by omega) (λy hc K' xe hK=>by
   rw [oz]
   exact zqy jl y wv C hc ((q1.on _ _).ext xe) ((sh.lay _ _).mono xe.inc) (by omega) K' hK) _ (λh' x=>?_)
  (replace z:=z.aj x;replace q1:=q1.over x;replace sh:=sh.over x;rw [ak h'])
  simp only [aa,seval,fT]
  refine jV _ _ _ _ (λh' f1 x r1=>?_)
  (replace z:=z.aj x;replace q1:=q1.over x;replace sh:=sh.over x;rw [ak h'])
  obtain ⟨k1,u1,v1,rfl⟩:=r1.1
  simp only [aa,seval,fT]
  refine r1.2 _ _ (jO.lay _ _ _ _) (λh' x=>?_)
  (replace z:=z.aj x;replace q1:=q1.over x;replace sh:=sh.over x;rw [ak h'])
  rw [zqK iJ cS] at hk
  simp only [aa,seval,fT]
  exact hk _ z.ao
theorem zxd (a:ae) (v:ai):(a.cells++[v])[0]? = some (.string a.says):=rfl
theorem Eo (a:ae) (v:ai):(a.cells++[v]).length=12:=rfl
theorem Ep (a:ae) (x:Option Addr) (n c:Nat):(a.cells++[Value.slice x n c]).all Am.one=true:=rfl
theorem zxf (a:ae) (v:ai):cut (a.cells++[v]) 0 12=some (a.cells++[v]):=rfl
theorem zxp (h:Heap) (l:List bd) (w i o:Nat) (v:ai) (hi:i < l.length):gm az 71 (.pointer (some ⟨h.size+i,o,none⟩)) v (h.lay l w)=if v.cells.size=12 then oF l[i]? i o v.cells.toList h l w else none:=si mC h l w i o v hi
theorem KL (s:aA) (a:ae) (v:ai):cut (Value.string s::(a.cells++[v])) 1 11=some a.cells:=rfl
theorem zxn (h:Heap) (l:List bd) (w i o:Nat) (v:ai) (hi:i < l.length):gm az 73 (.pointer (some ⟨h.size+i,o,none⟩)) v (h.lay l w)=if v.cells.size=13 then oF l[i]? i o v.cells.toList h l w else none:=si lz h l w i o v hi
theorem zsG (d:aD) (c:bA) (v:ai) (p0 p1 p2 p5 p6:ai) (q b:Int) (A B:Nat) (h:Heap) (bJ:aI 1 h) (aY:(cN p0 p1 p2 p5 p6 q b).all Am.one=true) (h0:Sl aQ.str h p0 d.ah) (h1:Sl aQ.pred h p1 d.bo) (hs:d.ah.length<=1000) (hl:Sl aQ.atom h v c.body) (iT:c.body.length<=1000) (q0:Holds h A (.row (cN p0 p1 p2 p5 p6 q b) 29 false)) (q1:Holds h B (.row (c.head.cells++[v]) 71 false)) (K:aF) (hk:∀ h',Ext h h'->K (.int .i64 (ic d c.head c.body)) h'):Ok prog az ov 111 [.pointer (some ⟨A,0,none⟩),.pointer (some ⟨B,0,none⟩)] h K:=by
 rw [ak h]
 have z:=Ext.refl h
 have b9:∀ (h:Heap) (K:aF),aE (some v) h K=K v h:=λ_ _=>rfl
 refine Ok.au 7 (br BB) ?_
 simp only [aa,seval,Cz,q0.lay,q1.lay,↓eI,eH,ef,↓US,NV,dO,dx,b9]
 refine SR d c.head c.body v _ _ _ _ _ _ _ _ (bJ.lay _ _) aY (h0.lay _ _) (h1.lay _ _) hs (hl.lay _ _) iT _ (λh' x=>?_)
 (replace z:=z.aj x;rw [ak h'])
 simp only [aa,seval,Cz]
 exact hk _ z.ao
theorem zsH (c:bA) (v:ai) (B:Nat) (h:Heap) (hl:Sl aQ.atom h v c.body) (iT:c.body.length<=200) (q1:Holds h B (.row (c.head.cells++[v]) 71 false)) (K:aF) (hk:∀ h',Ext h h'->K (.int .i64 (uG c)) h'):Ok prog az ov 113 [.pointer (some ⟨B,0,none⟩)] h K:=by
 rw [ak h]
 have z:=Ext.refl h
 have ub:∀ (h:Heap) (K:aF),aE (some (.agg (c.head.cells++[v]).toArray)) h K=K (.agg ⟨c.head.cells++[v]⟩) h:=λ_ _=>rfl
 refine Ok.au 3 (br BD) ?_
 simp only [aa,seval,CA,q1.lay,↓zxf,ub]
 refine zqz c v _ (hl.lay _ _) iT _ (λh' x=>?_)
 (replace z:=z.aj x;rw [ak h'])
 simp only [aa,seval,CA]
 exact hk _ z.ao
theorem zsI (d:aD) (g:dg) (v:ai) (p0 p1 p2 p5 p6:ai) (q b:Int) (A B:Nat) (h:Heap) (bJ:aI 1 h) (aY:(cN p0 p1 p2 p5 p6 q b).all Am.one=true) (h0:Sl aQ.str h p0 d.ah) (h1:Sl aQ.pred h p1 d.bo) (hs:d.ah.length<=1000) (hl:Sl aQ.atom h v g.body) (iT:g.body.length<=1000) (q0:Holds h A (.row (cN p0 p1 p2 p5 p6 q b) 29 false)) (q1:Holds h B (.row (.string g.to::(g.head.cells++[v])) 73 false)) (K:aF) (hk:∀ h',Ext h h'->K (.int .i64 (ic d g.head g.body)) h'):Ok prog az ov 115 [.pointer (some ⟨A,0,none⟩),.pointer (some ⟨B,0,none⟩)] h K:=by
 rw [ak h]
 have z:=Ext.refl h
 have b9:∀ (h:Heap) (K:aF),aE (some v) h K=K v h:=λ_ _=>rfl
 refine Ok.au 7 (br BF) ?_
 simp only [aa,seval,CB,q0.lay,q1.lay,↓eI,eH,ef,↓KL,NV,dO,dx,b9]
 refine SR d g.head g.body v _ _ _ _ _ _ _ _ (bJ.lay _ _) aY (h0.lay _ _) (h1.lay _ _) hs (hl.lay _ _) iT _ (λh' x=>?_)
 (replace z:=z.aj x;rw [ak h'])
 simp only [aa,seval,CB]
 exact hk _ z.ao
theorem zqN (d:aD):wu d=if dw (λ_ c=>nS d c) [] d.rules=0 then dw (λ_ g=>mU d g) [] d.aP else dw (λ_ c=>nS d c) [] d.rules:=by
 unfold wu
 rw [dN,dN,zp2]
 split
 .split
  .rename_i h;exact h.symm
  .rfl
 .rfl
theorem zsJ (d:aD) (p0 p1 p2 p5 p6:ai) (q b:Int) (h:Heap) (bJ:aI 1 h) (aY:(cN p0 p1 p2 p5 p6 q b).all Am.one=true) (h0:Sl aQ.str h p0 d.ah) (h1:Sl aQ.pred h p1 d.bo) (hs:d.ah.length<=1000) (h5:Sl aQ.clause h p5 d.rules) (Wu:d.rules.length<=1000) (Vv:∀ r∈d.rules,r.body.length<=200) (h6:Sl aQ.lX h p6 d.aP) (Wv:d.aP.length<=1000) (Vw:∀ g∈d.aP,g.body.length<=200) (K:aF) (hk:∀ h',Ext h h'->K (.int .i64 (wu d)) h'):Ok prog az ov 66 [fS p0 p1 p2 p5 p6 q b] h K:=by
 rw [ak h]
 have z:=Ext.refl h
 have pc:∀ (h:Heap) (K:aF),aE (some p5) h K=K p5 h:=λ_ _=>rfl
 have pZ:∀ (h:Heap) (K:aF),aE (some p6) h K=K p6 h:=λ_ _=>rfl
 have eo:∀ (s:aA) (h:Heap) (K:aF),aE (some (.string s)) h K=K (.string s) h:=λ_ _ _=>rfl
 have sI:=λ(hh:Heap)=>h5.bE jh hh
 have rm:=λ(hh:Heap)=>h6.bE j3 hh
 rw [zqN] at hk
 obtain ⟨F,hF⟩:∃ F:List bA->bA->Int,F=λ_ c=>nS d c:=⟨_,rfl⟩
 obtain ⟨E,hE⟩:∃ E:List dg->dg->Int,E=λ_ g=>mU d g:=⟨_,rfl⟩
 rw [<- hF,<- hE] at hk
 refine Ok.au 50 (br Ps) ?_
 simp only [aa,seval,iH,iE,ki,pc,sI]
 refine ko (λh' x hq=>?_)
 have q0:=hq 0 _ rfl
 clear hq
 (replace z:=z.aj x;rw [ak h'])
 obtain ⟨A0,dA⟩:∃ A0,A0=h.size+0:=⟨_,rfl⟩
 rw [<- dA] at q0
 rw [<- dA]
 obtain ⟨I1,aU⟩:∃ I:Nat->Env->Heap->Prop,I=(λn e h'=>∃ (i:Nat) (h1:Heap),h'=h1.lay [] h1.low/\Ext h h1/\(n=d.rules.length - i/\i<=d.rules.length/\Holds h1 A0 (.row (cN p0 p1 p2 p5 p6 q b) 29 false)/\dw F [] d.rules=dw F (d.rules.take i) (d.rules.drop i))/\∃ J:Nat->ai,e=(J 0::.pointer (some ⟨A0,0,none⟩)::jr J 2 8 (p5::.int .i64 d.rules.length::.int .i64 i::jr J 13 38 ([])))):=⟨_,rfl⟩
 refine dK I1 _ (by rw [aU];exact ⟨0,_,rfl,z,⟨rfl,by omega,q0,rfl⟩,bx⟩) ?_
 intro n e h' aR
 rw [aU] at aR
 obtain ⟨i,b8,rfl,z,hinv,J,rfl⟩:=aR
 clear q0
 obtain ⟨rfl,hi,q0,cH⟩:=hinv
 have hw:=ec i (by omega)
 simp only [aa,seval,iH]
 refine bp (λaS=>?_) (λaS=>?_)
 .obtain ⟨r,hr,bz⟩:=fx (l:=d.rules) (i:=i) (by omega)
  rw [cH,mP bz] at hk
  have lJ:F (d.rules.take i) r=eN [ic d r.head r.body,uG r]:=by rw [hF];rfl
  have P9:=Vv r (ig bz)
  simp only [aa,seval,iH]
  refine Gx (h5.mono z.inc) jh mC (by omega) hr (λp v hv hp=>?_)
  obtain ⟨av,nv,cv,rfl⟩:=Ax hv
  repeat' (first|simp only [aa,seval,iH]|with_reducible refine W3 hp Ct mC ?_)
  clear hp
  simp only [aa,seval,iH,i7,jM,iZ,zxp,Eo,Ep]
  have De:∀ (bs:List bd) (w:Nat) (i:Nat) (b:bd),bs[i]? = some b->Holds (b8.lay bs w) (b8.size+i) b:=λbs w i b hb=>⟨by rw [cF];have:=(fB.1 hb).1;omega,by rw [iL];exact hb⟩
  refine sU [.func (.func 111) ⟨[]⟩ ⟨[.pointer (some ⟨A0,0,none⟩),.pointer (some ⟨b8.size+0,0,none⟩)]⟩,.func (.func 113) ⟨[]⟩ ⟨[.pointer (some ⟨b8.size+0,0,none⟩)]⟩] [ic d r.head r.body,uG r] _ _ (tc (i:=1) rfl rfl rfl (by simp)) (by simp) rfl (λi fv e g1 g2=>?_) _ (λh' x=>?_)
  .match i,g1,g2 with
   |0,g1,g2 =>
    cases g1;cases g2
    exact ⟨⟨_,_,_,rfl⟩,λhc K2 y gz=>by
     rw [oz]
     exact zsG d r _ _ _ _ _ _ _ _ A0 _ hc (Holds.eh ((bJ.ext z).lay _ _) y) aY (((h0.mono z.inc).lay _ _).mono y.all) (((h1.mono z.inc).lay _ _).mono y.all) hs ((hv.lay _ _).mono y.all) (by omega) (Holds.eh (q0.on _ _) y) (Holds.eh (De _ _ 0 _ rfl) y) K2 gz⟩
   |1,g1,g2 =>
    cases g1;cases g2
    exact ⟨⟨_,_,_,rfl⟩,λhc K2 y gz=>by
     rw [oz]
     exact zsH r _ _ hc ((hv.lay _ _).mono y.all) P9 (Holds.eh (De _ _ 0 _ rfl) y) K2 gz⟩
  (replace z:=z.aj x;replace q0:=q0.over x;rw [ak h'])
  rw [<- lJ]
  clear De
  simp only [aa,seval,iH]
  refine gD (λaV=>?_) (λheq=>?_)
  .rw [ay aV,ay aV] at hk
   simp only [aa,seval,iH]
   exact hk _ z.ao
  rw [aC heq] at hk
  simp only [aa,seval,iH]
  rw [hw]
  (rw [aU];with_reducible refine db (m:=_) ?_ ⟨i+1,_,rfl,z,⟨rfl,by omega,q0,by rw [cH,mP bz,aC heq]⟩,bx⟩;omega)
 rw [cH,vT (by omega),aC rfl] at hk
 clear cH hw hi aS
 simp only [aa,seval,iH,q0.lay,lu,pZ,rm]
 obtain ⟨I2,fV⟩:∃ I:Nat->Env->Heap->Prop,I=(λn e h'=>∃ (i:Nat) (h1:Heap),h'=h1.lay [] h1.low/\Ext h h1/\(n=d.aP.length - i/\i<=d.aP.length/\Holds h1 A0 (.row (cN p0 p1 p2 p5 p6 q b) 29 false)/\dw E [] d.aP=dw E (d.aP.take i) (d.aP.drop i))/\∃ J:Nat->ai,e=(J 0::.pointer (some ⟨A0,0,none⟩)::jr J 2 23 (p6::.int .i64 d.aP.length::.int .i64 i::jr J 28 23 ([])))):=⟨_,rfl⟩
 refine dK I2 _ (by rw [fV];exact ⟨0,_,rfl,z,⟨rfl,by omega,q0,rfl⟩,bx⟩) ?_
 intro n e h' aR
 rw [fV] at aR
 obtain ⟨i,b8,rfl,z,hinv,J,rfl⟩:=aR
 clear q0
 obtain ⟨rfl,hi,q0,cH⟩:=hinv
 have hw:=ec i (by omega)
 simp only [aa,seval,iH]
 refine bp (λaS=>?_) (λaS=>?_)
 .obtain ⟨r,hr,bz⟩:=fx (l:=d.aP) (i:=i) (by omega)
  rw [cH,mP bz] at hk
  have lJ:E (d.aP.take i) r=eN [aO (!aM d.ah r.to) 6,aO (decide (r.to=r.head.says)) 11,ic d r.head r.body]:=by rw [hE];rfl
  have P9:=Vw r (ig bz)
  simp only [aa,seval,iH]
  refine IU (h6.mono z.inc) j3 lz (by omega) hr (λp v hv hp=>?_)
  obtain ⟨av,nv,cv,rfl⟩:=Ax hv
  repeat' (first|simp only [aa,seval,iH]|with_reducible refine Qz hp wQ lz ?_)
  clear hp
  simp only [aa,seval,iH,i7,kS,Am.one,jM,iZ,zxn,Eo,Ep]
  refine ko (λh' x hq=>?_)
  have e0:=hq 0 _ rfl
  clear hq
  (replace z:=z.aj x;replace q0:=q0.over x;replace hv:=hv.over x;rw [ak h'])
  obtain ⟨E0,lI⟩:∃ E0,E0=b8.size+0:=⟨_,rfl⟩
  rw [<- lI] at e0
  rw [<- lI]
  with_reducible first|refine hH (by simp only [iH]) z.ao ?_
  simp only [aa,seval,iH,q0.lay,e0.lay,eo,↓eI,eH,ef]
  refine Aj d.ah r.to _ _ _ _ _ _ _ _ ((h0.mono z.inc).lay _ _) hs _ (λh' x=>?_)
  (((with_reducible refine eu ?_ ?_ ?_);(· exact (by (simp only [ep]);have:=z.size;omega));(· exact x));replace z:=z.aj x;replace q0:=q0.over x;replace e0:=e0.over x;replace hv:=hv.over x;rw [ak h'])
  simp only [aa,seval,iH]
  (with_reducible apply bK);(· rfl)
  simp only [aa,seval,iH]
  refine jV _ _ _ _ (λh' f1 x r1=>?_)
  (((with_reducible refine eu ?_ ?_ ?_);(· exact (by (simp only [ep]);have:=z.size;omega));(· exact x));replace z:=z.aj x;replace q0:=q0.over x;replace e0:=e0.over x;replace hv:=hv.over x;rw [ak h'])
  simp only [aa,seval,iH,e0.lay,zxd,eo]
  rw [sR]
  simp only [aa,seval,iH]
  refine jV _ _ _ _ (λh' f2 x r2=>?_)
  (((with_reducible refine eu ?_ ?_ ?_);(· exact (by (simp only [ep]);have:=z.size;omega));(· exact x));replace z:=z.aj x;replace q0:=q0.over x;replace e0:=e0.over x;replace hv:=hv.over x;replace r1:=r1.over x;rw [ak h'])
  have r3:dE h' (.func (.func 115) ⟨[]⟩ ⟨[.pointer (some ⟨A0,0,none⟩),.pointer (some ⟨E0,0,none⟩)]⟩) (ic d r.head r.body):=⟨⟨_,_,_,rfl⟩,λhc K2 y gz=>by
   rw [oz]
   exact zsI d r _ _ _ _ _ _ _ _ A0 E0 hc (Holds.eh (bJ.ext z) y) aY ((h0.mono z.inc).mono y.all) ((h1.mono z.inc).mono y.all) hs (hv.mono y.all) (by omega) (Holds.eh q0 y) (Holds.eh e0 y) K2 gz⟩
  obtain ⟨k1,u1,v1,rfl⟩:=r1.1
  obtain ⟨k2,u2,v2,rfl⟩:=r2.1
  simp only [aa,seval,iH]
  refine yO (by have:=z.size;omega) (by omega) ?_
  simp only [aa,seval,iH]
  refine sU [.func k1 u1 v1,.func k2 u2 v2,.func (.func 115) ⟨[]⟩ ⟨[.pointer (some ⟨A0,0,none⟩),.pointer (some ⟨E0,0,none⟩)]⟩] [aO (!aM d.ah r.to) 6,aO (decide (r.to=r.head.says)) 11,ic d r.head r.body] _ _ (tc (i:=0) rfl rfl rfl (by simp)) (by simp) rfl (λi fv e g1 g2=>?_) _ (λh' x=>?_)
  .match i,g1,g2 with
   |0,g1,g2=>cases g1;cases g2;exact r1.lay _ _
   |1,g1,g2=>cases g1;cases g2;exact r2.lay _ _
   |2,g1,g2=>cases g1;cases g2;exact r3.lay _ _
  (((with_reducible refine eu ?_ ?_ ?_);(· exact (by (simp only [ep]);have:=z.size;omega));(· exact x));replace z:=z.aj x;replace q0:=q0.over x;replace e0:=e0.over x;replace hv:=hv.over x;replace r1:=r1.over x;replace r2:=r2.over x;rw [ak h'])
  rw [<- lJ]
  clear r1 r2 r3
  simp only [aa,seval,iH]
  ((with_reducible refine ⟨z.eD.lay _ _,?_⟩);(intro _ h' zz x _);(simp only [dy,cU] at x);replace q0:=q0.over x;(replace z:=zz);(clear zz);rw [ak h'])
  simp only [aa,seval,iH]
  refine gD (λaV=>?_) (λheq=>?_)
  .rw [ay aV] at hk
   simp only [aa,seval,iH]
   exact hk _ z.ao
  rw [aC heq] at hk
  simp only [aa,seval,iH]
  rw [hw]
  (rw [fV];with_reducible refine db (m:=_) ?_ ⟨i+1,_,rfl,z,⟨rfl,by omega,q0,by rw [cH,mP bz,aC heq]⟩,bx⟩;omega)
 .rw [cH,vT (by omega)] at hk
  simp only [aa,seval,iH]
  exact hk _ z.ao
structure qm (d:aD):Prop where
 p:d.ah.length<=1000
 c:d.aN.length<=1000
 r:d.rules.length<=1000
 rb:∀ r∈d.rules,r.body.length<=200
 g:d.aP.length<=1000
 gb:∀ g∈d.aP,g.body.length<=200
theorem zsv (d:aD) (p0 p1 p2 p5 p6:ai) (q b:Int) (h:Heap) (bJ:aI 1 h) (aY:(cN p0 p1 p2 p5 p6 q b).all Am.one=true) (hd:dP h p0 p1 p2 p5 p6 d) (hq:d.cB=q) (hb:d.bO=b) (hn:qm d) (K:aF) (hk:∀ h',Ext h h'->K (.int .i64 (kp d)) h'):Ok prog az ov 27 [fS p0 p1 p2 p5 p6 q b] h K:=by
 rw [ak h]
 have z:=Ext.refl h
 obtain ⟨es,tJ⟩:∃ es,es=[nN d.ah,oE d.bo,r6 d.ah d.aN,uB d,wu d]:=⟨_,rfl⟩
 obtain ⟨iR,pQ⟩:∃ iR:List ai,iR=[.func (.func 62) ⟨[]⟩ ⟨[]⟩,.func (.func 63) ⟨[]⟩ ⟨[]⟩,.func (.func 64) ⟨[]⟩ ⟨[]⟩,.func (.func 65) ⟨[]⟩ ⟨[]⟩,.func (.func 66) ⟨[]⟩ ⟨[]⟩]:=⟨_,rfl⟩
 have KY:kp d=eN es:=by rw [tJ];rfl
 rw [KY] at hk
 have cW:∀ (i:Nat) fv e,iR[i]? = some fv->es[i]? = some e->∀ hc (K:aF),Ext h hc->(∀ h',Ext hc h'->K (.int .i64 e) h')->qh prog az ov [fS p0 p1 p2 p5 p6 q b] hc K fv:=by
  intro i fv e h1 h2 hc K2 y gz
  rw [pQ] at h1
  rw [tJ] at h2
  have fW:=hd.mono y.inc
  match i,h1,h2 with
  |0,h1,h2=>cases h1;cases h2;rw [nK];exact zsE d.ah _ _ _ _ _ _ _ hc (bJ.ext y) fW.s0 K2 gz
  |1,h1,h2=>cases h1;cases h2;rw [nK];exact zsD d.bo _ _ _ _ _ _ _ hc (bJ.ext y) fW.s1 K2 gz
  |2,h1,h2=>cases h1;cases h2;rw [nK];exact zqp d _ _ _ _ _ _ _ hc aY fW.s0 fW.s2 hn.p hn.c K2 gz
  |3,h1,h2=>cases h1;cases h2;rw [nK];exact ZQ d _ _ _ _ _ _ _ hc hq hb fW.s5 fW.s6 hn.r hn.g K2 gz
  |4,h1,h2=>cases h1;cases h2;rw [nK];exact zsJ d _ _ _ _ _ _ _ hc (bJ.ext y) aY fW.s0 fW.s1 hn.p fW.s5 hn.r hn.rb fW.s6 hn.g hn.gb K2 gz
 have sG:iR.length=5:=by rw [pQ];rfl
 have zU:es.length=5:=by rw [tJ];rfl
 refine Ok.au 20 (br O2) ?_
 simp only [aa,seval,tw,iE]
 refine ko (λh' x hq=>?_)
 have q0:=hq 0 _ rfl
 have q1:=hq 1 _ rfl
 clear hq
 (replace z:=z.aj x;rw [ak h'])
 obtain ⟨A0,dA⟩:∃ A0,A0=h.size+0:=⟨_,rfl⟩
 rw [<- dA] at q0
 rw [<- dA]
 obtain ⟨A1,j5⟩:∃ A1,A1=h.size+1:=⟨_,rfl⟩
 rw [<- j5] at q1
 rw [<- j5]
 have sf:Sl aQ.xk h' (.slice (some ⟨A1,0,none⟩) 5 5) iR:=by
  refine .inr ⟨A1,0,5,_,_,_,by rw [sG],by rw [sG];unfold maxLen;omega,.inl ⟨by unfold G;omega,by omega⟩,q1.lt,q1.get,λj x hx=>⟨[x],?_,rfl,?_⟩⟩
  .rw [pQ] at hx
   match j,hx with
   |0,hx=>cases hx;rfl
   |1,hx=>cases hx;rfl
   |2,hx=>cases hx;rfl
   |3,hx=>cases hx;rfl
   |4,hx=>cases hx;rfl
  .rw [pQ] at hx
   match j,hx with
   |0,hx=>cases hx;rfl
   |1,hx=>cases hx;rfl
   |2,hx=>cases hx;rfl
   |3,hx=>cases hx;rfl
   |4,hx=>cases hx;rfl
 clear q1
 obtain ⟨sv,tW⟩:∃ sv,sv=Value.slice (some ⟨A1,0,none⟩) 5 5:=⟨_,rfl⟩
 rw [<- tW] at sf ⊢
 obtain ⟨I1,aU⟩:∃ I:Nat->Env->Heap->Prop,I=(λn e h'=>∃ (i:Nat) (h1:Heap),h'=h1.lay [] h1.low/\Ext h h1/\(n=5 - i/\i<=5/\Holds h1 A0 (.row (cN p0 p1 p2 p5 p6 q b) 29 false)/\Sl aQ.xk h1 sv iR/\(∀ x∈es.take i,x=0))/\∃ J:Nat->ai,e=(J 0::.pointer (some ⟨A0,0,none⟩)::jr J 2 6 (sv::.int .i64 5::.int .i64 i::jr J 11 10 ([])))):=⟨_,rfl⟩
 refine dK I1 _ (by rw [aU];exact ⟨0,_,rfl,z,⟨rfl,by omega,q0,sf,by simp⟩,bx⟩) ?_
 intro n e h' aR
 rw [aU] at aR
 obtain ⟨i,b8,rfl,z,hinv,J,rfl⟩:=aR
 clear q0 sf
 obtain ⟨rfl,hi,q0,sf,aq⟩:=hinv
 have hw:=ec i (by omega)
 simp only [aa,seval,tw]
 refine bp (λaS=>?_) (λaS=>?_)
 rotate_left
 .rw [i9 (by omega)] at aq
  rw [c8.2 aq] at hk
  simp only [aa,seval,tw]
  exact hk _ z.ao
 obtain ⟨fv,hf,pP⟩:=fx (l:=iR) (i:=i) (by omega)
 obtain ⟨e,he,mN⟩:=fx (l:=es) (i:=i) (by omega)
 simp only [aa,seval,tw]
 repeat' ((first|with_reducible refine NX sf I5 MC (by omega) hf (λp hp=>?_)|with_reducible refine iF hp Cs ?_) <;> simp only [aa,seval,tw])
 simp only [aa,seval,tw,q0.lay,↓eI,eH,ef]
 refine cW i fv e pP mN _ _ z.ao (λh' x=>?_)
 (replace z:=z.aj x;replace q0:=q0.over x;replace sf:=sf.over x;rw [ak h'])
 simp only [aa,seval,tw]
 refine gD (λaV=>?_) (λheq=>?_)
 .rw [Tb aq mN aV] at hk
  simp only [aa,seval,tw]
  exact hk _ z.ao
 .simp only [aa,seval,tw]
  rw [hw]
  (rw [aU];with_reducible refine db (m:=_) ?_ ⟨i+1,_,rfl,z,⟨rfl,by omega,q0,sf,mS (i:=i) (P:=λx:Int=>x=0) mN aq heq⟩,bx⟩;omega)
end Go.Proofs.YtjildadoepadeaaGreatDoor
