/- The code of some functions, node by node, for simp. Written by a program (mkcode.py). No condition. -/
import Derived.Test.YtiapegieocgmfaaGreatDoorZQ0
set_option linter.unusedSimpArgs false
set_option linter.unusedVariables false
set_option maxRecDepth 100000
set_option maxHeartbeats 0
noncomputable section
namespace Go.Proofs.YtiapegieocgmfaaGreatDoor
open Go.Am Tryz
variable {l:List au}
def N69:=bA f69
def x69:=PLift.up (by have c:=bB N69 f69;simp only [aN,f69,seval] at c;exact nd c <| nd @Z2 <| nd @Es <| nd @HJ <| nd @kF <| nd @mH <| nd @gA <| nd @kG <| @Wa)
theorem pO:type_of% x69.down:=x69.down
def N70:=bA f70
def x70:=PLift.up (by have c:=bB N70 f70;simp only [aN,f70,seval] at c;exact nd c <| nd @Z2 <| nd @EY <| nd @Es <| nd @JN <| nd @HM <| nd @Rc <| nd @y8 <| nd @vN <| nd @mZ <| nd @GW <| nd @gA <| nd @zc <| @Wb)
theorem ko:type_of% x70.down:=x70.down
def Ke:=bA f120
def OC:=PLift.up (by have c:=bB Ke f120;simp only [aN,f120,seval] at c;exact nd c <| nd @Es <| nd @CB <| nd @JQ <| nd @kF <| nd @mH <| nd @dZ <| nd @gA <| nd @kG <| @zDy)
theorem fS:type_of% OC.down:=OC.down
def N71:=bA f71
def x71:=PLift.up (by have c:=bB N71 f71;simp only [aN,f71,seval] at c;exact nd c <| nd @Z2 <| nd @UQ <| nd @Es <| nd @T6 <| nd @CB <| nd @y9 <| nd @B3 <| nd @dZ <| nd @B6 <| nd @gA <| nd @B7 <| @Wc)
theorem qU:type_of% x71.down:=x71.down
def Kd:=bA f119
def OA:=PLift.up (by have c:=bB Kd f119;simp only [aN,f119,seval] at c;exact nd c <| nd @dZ <| nd @B6 <| @zDx)
theorem Lo:type_of% OA.down:=OA.down
def N72:=bA f72
def x72:=PLift.up (by have c:=bB N72 f72;simp only [aN,f72,seval] at c;exact nd c <| nd @Rb <| nd @zz0 <| nd @T7 <| nd @T8 <| nd @B4 <| nd @B5 <| nd @mZ <| nd @B8 <| nd @B9 <| @Wd)
theorem RF:type_of% x72.down:=x72.down
def Kg:=bA f122
def OE:=PLift.up (by have c:=bB Kg f122;simp only [aN,f122,seval] at c;exact nd c <| nd @Es <| nd @mI <| nd @je <| @zDA)
theorem A7:type_of% OE.down:=OE.down
def KH:=bA f157
def O9:=PLift.up (by have c:=bB KH f157;simp only [aN,f157,seval] at c;exact nd c <| nd @dZ <| nd @cq <| @zD1)
theorem Ly:type_of% O9.down:=O9.down
def KI:=bA f158
def Pa:=PLift.up (by have c:=bB KI f158;simp only [aN,f158,seval] at c;exact nd c <| nd @EX <| nd @j4 <| nd @dZ <| nd @mI <| nd @cq <| nd @je <| @zD2)
theorem pK:type_of% Pa.down:=Pa.down
def Ki:=bA f124
def OH:=PLift.up (by have c:=bB Ki f124;simp only [aN,f124,seval] at c;exact nd c <| nd @UO <| nd @EX <| nd @HN <| nd @HO <| nd @j4 <| nd @mH <| nd @mI <| nd @cq <| nd @je <| @zDC)
theorem jS:type_of% OH.down:=OH.down
def KL:=bA f161
def Pd:=PLift.up (by have c:=bB KL f161;simp only [aN,f161,seval] at c;exact nd c <| nd @mH <| @zD5)
theorem E9:type_of% Pd.down:=Pd.down
def N73:=bA f73
def x73:=PLift.up (by have c:=bB N73 f73;simp only [aN,f73,seval] at c;exact nd c <| nd @UR <| nd @Lj <| nd @Es <| nd @T7 <| nd @T8 <| nd @zB <| nd @T9 <| nd @Q2 <| nd @GR <| nd @GS <| nd @B4 <| nd @B5 <| nd @dZ <| nd @NN <| nd @NO <| nd @gA <| nd @B8 <| nd @B9 <| @We)
theorem ml:type_of% x73.down:=x73.down
def Kf:=bA f121
def OD:=PLift.up (by have c:=bB Kf f121;simp only [aN,f121,seval] at c;exact nd c <| nd @HN <| nd @HO <| nd @dZ <| nd @mI <| nd @cq <| @zDz)
theorem Lp:type_of% OD.down:=OD.down
def Kh:=bA f123
def OG:=PLift.up (by have c:=bB Kh f123;simp only [aN,f123,seval] at c;exact nd c <| nd @NN <| @zDB)
theorem Lq:type_of% OG.down:=OG.down
def Kj:=bA f125
def OI:=PLift.up (by have c:=bB Kj f125;simp only [aN,f125,seval] at c;exact nd c <| nd @Q2 <| nd @Ua <| nd @dZ <| nd @mI <| nd @cq <| @zDD)
theorem Lr:type_of% OI.down:=OI.down
def N44:=bA f44
def x44:=PLift.up (by have c:=bB N44 f44;simp only [aN,f44,seval] at c;exact nd c <| nd @zDl <| nd @zEJ <| nd @zEM <| nd @dZ <| nd @zEP <| @VO)
theorem Bh:type_of% x44.down:=x44.down
def KK:=bA f160
def Pc:=PLift.up (by have c:=bB KK f160;simp only [aN,f160,seval] at c;exact nd c <| @zD4)
theorem E8:type_of% Pc.down:=Pc.down
def KU:=bA f178
def Ps:=PLift.up (by have c:=bB KU f178;simp only [aN,f178,seval] at c;exact nd c <| nd @kF <| nd @gA <| nd @kG <| @zEi)
theorem sO:type_of% Ps.down:=Ps.down
theorem JK:aD.desc 177=some (.map 9 178):=by kernel_rfl
theorem uW:aD.desc 9=some .string:=by kernel_rfl
theorem zx1:aD.zero 178=some (.agg ⟨[]⟩):=by kernel_rfl
theorem zqq:qp aD 178 []=some (.agg ⟨[]⟩):=by kernel_rfl
theorem zhw {T:bI} {t kt et:TypeId} {A w:Nat} {met:List au} {a:au} {h1:Heap} {bs:List ba} {K:aF} (m:dF Value.string h1 A met) (hd:T.desc t=some (.map kt et)) (hs:T.desc kt=some .string) (hz:T.zero et=some (.agg ⟨[]⟩)) (hK:K (.tuple #[.agg ⟨[]⟩,.bool (cp met a)]) (h1.lay bs w)):aC (Cs T t (.map (some A)) (.string a) true (h1.lay bs w)) (h1.lay bs w) K :=
 ztS (kv:=Value.string) m (λ_=>rfl) hd (JM hs) hz (λhm=>by rw [dw.2 hm] at hK;exact hK) (λhm=>by rw [Bool.eq_false_iff.2 (mt dw.1 hm)] at hK;exact hK)
theorem zng {T:bI} {t kt et:TypeId} {A w:Nat} {met:List au} {a:au} {h1:Heap} {bs:List ba} {K:aF} (m:dF Value.string h1 A met) (hd:T.desc t=some (.map kt et)) (hs:T.desc kt=some .string) (hK:∀ h',dF Value.string h' A (met++[a])->eG A (h1.lay bs w) h'->K undef h'):iv (rO T t (.map (some A)) (.string a) (.agg ⟨[]⟩) (h1.lay bs w)) K :=
 zzI (kv:=Value.string) m (λ_=>rfl) (λx=>zgn x) hd (JM hs) (λh' m2 c=>hK h' (m2.same (λb=>by rw [dh,mj,hU];exact Or.comm)) c)
theorem zrv (h:Heap) (l:List ba) (w i o:Nat) (v:ab) (hi:i < l.length):iH aD 178 (.pointer (some ⟨h.size+i,o,none⟩)) v (h.lay l w)=if v.cells.size=0 then tI l[i]? i o v.cells.toList h l w else none:=xk (by kernel_rfl) h l w i o v hi
theorem zy0 (s:au) (h:Heap) (cG:bd 1 h) (K:aF) (hk:∀ h',Ext h h'->K (.bool (qt s)) h'):Ok prog aD ov 117 [.string s] h K :=
 zm2 s h cG K (λg h' x=>by rw [cY.2 g] at hk;exact hk h' x) (λg h' x=>by rw [zpj g] at hk;exact hk h' x)
theorem zyZ (s:au) (h:Heap) (cG:bd 1 h) (K:aF) (hk:∀ h',Ext h h'->K (.bool (qt s)) h'):Ok prog aD ov 118 [.string s] h K :=
 zsB s h cG K (λg h' x=>by rw [cY.2 g] at hk;exact hk h' x) (λg h' x=>by rw [zpj g] at hk;exact hk h' x)
theorem zjG (h:l.length < 1\/16 < l.length):HU l=4:=aE h
theorem zwY (l:List au) (p0 p1 p2 p5 p6:ab) (q b:Int) (h:Heap) (cG:bd 1 h) (hl:Sl aM.str h p0 l) (K:aF) (hk:∀ h',Ext h h'->K (.int .i64 (HU l)) h'):Ok prog aD ov 69 [fI p0 p1 p2 p5 p6 q b] h K:=by
 rw [ao h]
 have z:=Ext.refl h
 have hle:=hl.le
 have bR:∀ (h:Heap) (K:aF),aC (some p0) h K=K p0 h:=λ_ _=>rfl
 have df:=λ(hh:Heap)=>hl.bo dr hh
 refine Ok.aw 47 (bq N69) ?_
 simp only [aa,seval,pO,gZ,eM,bR,df]
 refine bn (λh1=>?_) (λh1=>?_)
 .rw [zjG (.inl (by omega))] at hk
  simp only [aa,seval,pO]
  exact hk _ z.aA
 simp only [aa,seval,pO]
 refine bn (λh2=>?_) (λh2=>?_)
 .rw [zjG (.inr (by omega))] at hk
  simp only [aa,seval,pO]
  exact hk _ z.aA
 have BJ:HU l=ji (λpre w=>jN [bm (!qt w) 3,bm (cp pre w) 5]) [] l:=az (by omega)
 rw [BJ] at hk
 obtain ⟨F,hF⟩:∃ F:List au->au->Int,F=λpre w=>jN [bm (!qt w) 3,bm (cp pre w) 5]:=⟨_,rfl⟩
 rw [<- hF] at hk
 simp only [aa,seval,pO,Hv,eM,bR,df]
 refine na (λh' x hq=>?_)
 have q0:=hq 0 _ rfl
 have q1:=hq 1 _ rfl
 clear hq
 (replace z:=z.an x;rw [ao h'])
 obtain ⟨M,hM⟩:∃ M,M=h.size+1:=⟨_,rfl⟩
 rw [<- hM] at q1
 rw [<- hM]
 clear q0
 obtain ⟨I1,aU⟩:∃ I:Nat->Env->Heap->Prop,I=(λn e h'=>∃ (i:Nat) (h1:Heap),h'=h1.lay [] h1.low/\Ext h h1/\(n=l.length - i/\i<=l.length/\dF Value.string h1 M (l.take i)/\ji F [] l=ji F (l.take i) (l.drop i))/\∃ J:Nat->ab,e=(jr J 0 4 (.map (some M)::jr J 5 16 (p0::.int .i64 l.length::.int .i64 i::jr J 24 24 ([]))))):=⟨_,rfl⟩
 refine dA I1 _ (by rw [aU];exact ⟨0,_,rfl,z,⟨rfl,by omega,dF.new q1,rfl⟩,bl⟩) ?_
 intro n e h' aO
 rw [aU] at aO
 obtain ⟨i,bC,rfl,z,hinv,J,rfl⟩:=aO
 clear q1
 obtain ⟨rfl,hi,q1,ky⟩:=hinv
 have hw:=ei i (by omega)
 simp only [aa,seval,pO]
 refine bn (λaT=>?_) (λaT=>?_)
 rotate_left
 .rw [ky,Hq (by omega)] at hk
  simp only [aa,seval,pO]
  exact hk _ z.aA
 obtain ⟨r,hr,cw⟩:=eW (l:=l) (i:=i) (by omega)
 rw [ky,uB cw] at hk
 have qz:F (l.take i) r=jN [bm (!qt r) 3,bm (cp (l.take i) r) 5]:=by rw [hF]
 simp only [aa,seval,pO]
 repeat' ((first|with_reducible refine rK (hl.mono z.inc) dr px (by omega) hr (λp hp=>?_)|with_reducible refine gj hp j9 ?_) <;> simp only [aa,seval,pO])
 simp only [lx,seval,D6]
 refine zhw q1 JK uW zx1 ?_
 simp only [aa,seval,pO]
 rw [As]
 simp only [aa,seval,pO,sg,oX,sC,oV,zrv]
 refine zy0 r _ ((cG.ext z).lay _ _) _ (λh' x=>?_)
 (replace z:=z.an x;replace q1:=q1.over x;rw [ao h'])
 clear hp
 simp only [aa,seval,pO]
 (with_reducible apply bX);(· rfl)
 simp only [aa,seval,pO]
 refine oh _ _ _ _ (λh' f1 x r1=>?_)
 (replace z:=z.an x;replace q1:=q1.over x;rw [ao h'])
 simp only [aa,seval,pO]
 refine oh _ _ _ _ (λh' f2 x r2=>?_)
 (replace z:=z.an x;replace q1:=q1.over x;replace r1:=r1.over x;rw [ao h'])
 obtain ⟨g1,u1,v1,rfl⟩:=r1.1
 obtain ⟨g2,u2,v2,rfl⟩:=r2.1
 simp only [aa,seval,pO]
 refine Au [.func g1 u1 v1,.func g2 u2 v2] [bm (!qt r) 3,bm (cp (l.take i) r) 5] _ _ (AG (i:=0) rfl rfl rfl (by simp)) (by simp) rfl (λi fv e h1 h2=>?_) _ (λh' x=>?_)
 .match i,h1,h2 with
  |0,h1,h2=>cases h1;cases h2;exact r1.lay _ _
  |1,h1,h2=>cases h1;cases h2;exact r2.lay _ _
 (replace z:=z.an x;replace q1:=q1.over x;replace r1:=r1.over x;replace r2:=r2.over x;rw [ao h'])
 rw [<- qz]
 clear r1 r2
 simp only [aa,seval,pO]
 refine gg (λaQ=>?_) (λheq=>?_)
 .rw [az aQ] at hk
  simp only [aa,seval,pO]
  exact hk _ z.aA
 rw [aE heq] at hk
 have Mk:h.size<=M:=by omega
 simp only [aa,seval,pO,zqq,PW]
 refine zng q1 JK uW (λh3 q3 qV=>?_)
 replace z:=z.cM qV Mk (by omega)
 rw [ao h3]
 simp only [aa,seval,pO]
 rw [hw]
 have mX:l.take (i+1)=l.take i++[r]:=by rw [oW,cw];rfl
 rw [<- mX] at q3
 (rw [aU];with_reducible refine cy (m:=_) ?_ ⟨i+1,_,rfl,z,⟨rfl,by omega,q3,by rw [ky,uB cw,aE heq]⟩,bl⟩;omega)
theorem zuv {l:List da} (h:32 < l.length):Rf l=4:=aE h
theorem zwV (l:List da) (p0 p1 p2 p5 p6:ab) (q b:Int) (h:Heap) (cG:bd 1 h) (hl:Sl aM.pred h p1 l) (K:aF) (hk:∀ h',Ext h h'->K (.int .i64 (Rf l)) h'):Ok prog aD ov 70 [fI p0 p1 p2 p5 p6 q b] h K:=by
 rw [ao h]
 have z:=Ext.refl h
 have hle:=hl.le
 have bR:∀ (h:Heap) (K:aF),aC (some p1) h K=K p1 h:=λ_ _=>rfl
 have gK:∀ (s:au) (h:Heap) (K:aF),aC (some (.string s)) h K=K (.string s) h:=λ_ _ _=>rfl
 have df:=λ(hh:Heap)=>hl.bo kr hh
 refine Ok.aw 53 (bq N70) ?_
 simp only [aa,seval,ko,gZ,ft,bR,df]
 refine bn (λh2=>?_) (λh2=>?_)
 .rw [zuv (by omega)] at hk
  simp only [aa,seval,ko]
  exact hk _ z.aA
 have BJ:Rf l=ji (λpre x=>jN [bm (!qt x.name) 3,bm (cp (pre.map da.name) x.name) 5,bm (decide (x.arity < 0\/4 < x.arity)) 4]) [] l:=az (by omega)
 rw [BJ] at hk
 obtain ⟨F,hF⟩:∃ F:List da->da->Int,F=λpre x=>jN [bm (!qt x.name) 3,bm (cp (pre.map da.name) x.name) 5,bm (decide (x.arity < 0\/4 < x.arity)) 4]:=⟨_,rfl⟩
 rw [<- hF] at hk
 simp only [aa,seval,ko,Hv,ft,bR,df]
 refine na (λh' x hq=>?_)
 have q0:=hq 0 _ rfl
 have q1:=hq 1 _ rfl
 clear hq
 (replace z:=z.an x;rw [ao h'])
 obtain ⟨M,hM⟩:∃ M,M=h.size+1:=⟨_,rfl⟩
 rw [<- hM] at q1
 rw [<- hM]
 clear q0
 obtain ⟨I1,aU⟩:∃ I:Nat->Env->Heap->Prop,I=(λn e h'=>∃ (i:Nat) (h1:Heap),h'=h1.lay [] h1.low/\Ext h h1/\(n=l.length - i/\i<=l.length/\dF Value.string h1 M ((l.take i).map da.name)/\ji F [] l=ji F (l.take i) (l.drop i))/\∃ J:Nat->ab,e=(jr J 0 3 (.map (some M)::jr J 4 11 (p1::.int .i64 l.length::.int .i64 i::jr J 18 36 ([]))))):=⟨_,rfl⟩
 refine dA I1 _ (by rw [aU];exact ⟨0,_,rfl,z,⟨rfl,by omega,dF.new q1,rfl⟩,bl⟩) ?_
 intro n e h' aO
 rw [aU] at aO
 obtain ⟨i,bC,rfl,z,hinv,J,rfl⟩:=aO
 clear q1
 obtain ⟨rfl,hi,q1,ky⟩:=hinv
 have hw:=ei i (by omega)
 simp only [aa,seval,ko]
 refine bn (λaT=>?_) (λaT=>?_)
 rotate_left
 .rw [ky,Hq (by omega)] at hk
  simp only [aa,seval,ko]
  exact hk _ z.aA
 obtain ⟨r,hr,cw⟩:=eW (l:=l) (i:=i) (by omega)
 rw [ky,uB cw] at hk
 have qz:F (l.take i) r=jN [bm (!qt r.name) 3,bm (cp ((l.take i).map da.name) r.name) 5,bm (decide (r.arity < 0\/4 < r.arity)) 4]:=by rw [hF]
 simp only [aa,seval,ko]
 repeat' ((first|with_reducible refine Q4 (hl.mono z.inc) kr mL (by omega) hr (λp hp=>?_)|with_reducible refine GY hp AZ mL ?_) <;> simp only [aa,seval,ko])
 simp only [aa,seval,ko,sg,nU,oX,Am.one,sC,oV,zCR,D6,gK]
 refine zhw q1 JK uW zx1 ?_
 simp only [aa,seval,ko]
 rw [As]
 simp only [aa,seval,ko,sg,oX,sC,oV,JT,zrv]
 refine na (λh' x hq=>?_)
 have e0:=hq 0 _ rfl
 clear hq
 (replace z:=z.an x;replace q1:=q1.over x;rw [ao h'])
 obtain ⟨E0,oD⟩:∃ E0,E0=bC.size+0:=⟨_,rfl⟩
 rw [<- oD] at e0
 rw [<- oD]
 clear hp
 with_reducible first|refine dL (by simp only [ko]) z.aA ?_
 simp only [aa,seval,ko,e0.lay,gK]
 refine zyZ r.name _ ((cG.ext z).lay _ _) _ (λh' x=>?_)
 (((with_reducible refine cU ?_ ?_ ?_);(· exact (by (simp only [ck]);have:=z.size;omega));(· exact x));replace z:=z.an x;replace q1:=q1.over x;replace e0:=e0.over x;rw [ao h'])
 simp only [aa,seval,ko]
 (with_reducible apply bX);(· rfl)
 simp only [aa,seval,ko]
 refine oh _ _ _ _ (λh' f1 x r1=>?_)
 (((with_reducible refine cU ?_ ?_ ?_);(· exact (by (simp only [ck]);have:=z.size;omega));(· exact x));replace z:=z.an x;replace q1:=q1.over x;replace e0:=e0.over x;rw [ao h'])
 simp only [aa,seval,ko]
 refine oh _ _ _ _ (λh' f2 x r2=>?_)
 (((with_reducible refine cU ?_ ?_ ?_);(· exact (by (simp only [ck]);have:=z.size;omega));(· exact x));replace z:=z.an x;replace q1:=q1.over x;replace e0:=e0.over x;replace r1:=r1.over x;rw [ao h'])
 simp only [aa,seval,ko,e0.lay]
 refine bn (λc1=>?_) (λc1=>?_)
 .have tX:decide (r.arity < 0\/4 < r.arity)=true:=by simp [c1]
  rw [tX] at qz
  simp only [aa,seval,ko]
  refine oh _ _ _ _ (λh' f3 x r3=>?_)
  (((with_reducible refine cU ?_ ?_ ?_);(· exact (by (simp only [ck]);have:=z.size;omega));(· exact x));replace z:=z.an x;replace q1:=q1.over x;replace e0:=e0.over x;replace r1:=r1.over x;replace r2:=r2.over x;rw [ao h'])
  obtain ⟨g1,u1,v1,rfl⟩:=r1.1
  obtain ⟨g2,u2,v2,rfl⟩:=r2.1
  obtain ⟨g3,u3,v3,rfl⟩:=r3.1
  simp only [aa,seval,ko]
  refine w8 (by have:=z.size;omega) (by omega) ?_
  simp only [aa,seval,ko]
  refine Au [.func g1 u1 v1,.func g2 u2 v2,.func g3 u3 v3] [bm (!qt r.name) 3,bm (cp ((l.take i).map da.name) r.name) 5,bm true 4] _ _ (AG (i:=0) rfl rfl rfl (by simp)) (by simp) rfl (λi fv e h1 h2=>?_) _ (λh' x=>?_)
  .match i,h1,h2 with
   |0,h1,h2=>cases h1;cases h2;exact r1.lay _ _
   |1,h1,h2=>cases h1;cases h2;exact r2.lay _ _
   |2,h1,h2=>cases h1;cases h2;exact r3.lay _ _
  (((with_reducible refine cU ?_ ?_ ?_);(· exact (by (simp only [ck]);have:=z.size;omega));(· exact x));replace z:=z.an x;replace q1:=q1.over x;replace r1:=r1.over x;replace r2:=r2.over x;replace r3:=r3.over x;rw [ao h'])
  rw [<- qz]
  clear r1 r2 r3
  simp only [aa,seval,ko]
  ((with_reducible refine ⟨z.cn.lay _ _,?_⟩);(intro _ h' zz x _);(simp only [bM,bu] at x);replace q1:=q1.over x;(replace z:=zz);(clear zz);rw [ao h'])
  simp only [aa,seval,ko]
  refine gg (λaQ=>?_) (λheq=>?_)
  .rw [az aQ] at hk
   simp only [aa,seval,ko]
   exact hk _ z.aA
  .rw [heq] at qz
   have:=bY.1 qz.symm 4 (by simp [bm])
   omega
 .have tX:decide (r.arity < 0\/4 < r.arity)=decide (4 < r.arity):=by simp [c1]
  rw [tX] at qz
  simp only [aa,seval,ko,e0.lay]
  repeat (rw [As];simp only [aa,seval,ko])
  refine oh _ _ _ _ (λh' f3 x r3=>?_)
  (((with_reducible refine cU ?_ ?_ ?_);(· exact (by (simp only [ck]);have:=z.size;omega));(· exact x));replace z:=z.an x;replace q1:=q1.over x;replace e0:=e0.over x;replace r1:=r1.over x;replace r2:=r2.over x;rw [ao h'])
  obtain ⟨g1,u1,v1,rfl⟩:=r1.1
  obtain ⟨g2,u2,v2,rfl⟩:=r2.1
  obtain ⟨g3,u3,v3,rfl⟩:=r3.1
  simp only [aa,seval,ko]
  refine w8 (by have:=z.size;omega) (by omega) ?_
  simp only [aa,seval,ko]
  refine Au [.func g1 u1 v1,.func g2 u2 v2,.func g3 u3 v3] [bm (!qt r.name) 3,bm (cp ((l.take i).map da.name) r.name) 5,bm (decide (4 < r.arity)) 4] _ _ (AG (i:=0) rfl rfl rfl (by simp)) (by simp) rfl (λi fv e h1 h2=>?_) _ (λh' x=>?_)
  .match i,h1,h2 with
   |0,h1,h2=>cases h1;cases h2;exact r1.lay _ _
   |1,h1,h2=>cases h1;cases h2;exact r2.lay _ _
   |2,h1,h2=>cases h1;cases h2;exact r3.lay _ _
  (((with_reducible refine cU ?_ ?_ ?_);(· exact (by (simp only [ck]);have:=z.size;omega));(· exact x));replace z:=z.an x;replace q1:=q1.over x;replace e0:=e0.over x;replace r1:=r1.over x;replace r2:=r2.over x;replace r3:=r3.over x;rw [ao h'])
  rw [<- qz]
  clear r1 r2 r3
  simp only [aa,seval,ko]
  ((with_reducible refine ⟨z.cn.lay _ _,?_⟩);(intro _ h' zz x _);(simp only [bM,bu] at x);replace q1:=q1.over x;replace e0:=e0.over x;(replace z:=zz);(clear zz);rw [ao h'])
  simp only [aa,seval,ko]
  refine gg (λaQ=>?_) (λheq=>?_)
  .rw [az aQ] at hk
   simp only [aa,seval,ko]
   exact hk _ z.aA
  rw [aE heq] at hk
  have Mk:h.size<=M:=by omega
  simp only [aa,seval,ko,e0.lay,gK,zqq,PW]
  refine zng q1 JK uW (λh3 q3 qV=>?_)
  replace z:=z.cM qV Mk (by omega)
  rw [ao h3]
  simp only [aa,seval,ko]
  rw [hw]
  have mX:(l.take (i+1)).map da.name=(l.take i).map da.name++[r.name]:=by rw [oW,cw];simp
  rw [<- mX] at q3
  (rw [aU];with_reducible refine cy (m:=_) ?_ ⟨i+1,_,rfl,z,⟨rfl,by omega,q3,by rw [ky,uB cw,aE heq]⟩,bl⟩;omega)
theorem Jm {Z:Type} {r:aM Z} {h:Heap} {v:ab} {l:List Z} (f:Sl r h v l):∃ a n c,v=.slice a n c:=by
 rcases f with ⟨rfl,_⟩|⟨A,o,c,row,u,ro,rfl,_⟩ <;> exact ⟨_,_,_,rfl⟩
theorem zzv {h:Heap} {v:ab} (f:Sl aM.str h v l) (i:Nat) (hi:i<=l.length):∃ a n c,kV aD 22 v none (some (.int .i64 i)) none=some (.slice a n c)/\Sl aM.str h (.slice a n c) (l.take i):=by
 obtain ⟨u1,g1,g2⟩:=f.sub (a:=0) (b:=i) (by decide) dr px (.inl ⟨rfl,rfl⟩) (.inr ⟨.i64,rfl⟩) (by omega) hi
 obtain ⟨a,n,c,rfl⟩:=Jm g2
 exact ⟨a,n,c,g1,by simpa using g2⟩
theorem zpp {ps:List au} {c:bz} (h:c.reads.length < 1\/16 < c.reads.length):wi ps c=4:=aE h
theorem zwZ (ps:List au) (c:bz) (v:ab) (p0 p1 p2 p5 p6:ab) (q b:Int) (h:Heap) (bf:(du p0 p1 p2 p5 p6 q b).all Am.one=true) (h0:Sl aM.str h p0 ps) (hs:ps.length<=1000) (hv:Sl aM.str h v c.reads) (K:aF) (hk:∀ h',Ext h h'->K (.int .i64 (wi ps c)) h'):Ok prog aD ov 120 [fI p0 p1 p2 p5 p6 q b,.agg ⟨[.string c.who,v]⟩] h K:=by
 rw [ao h]
 have z:=Ext.refl h
 have hle:=hv.le
 have bR:∀ (h:Heap) (K:aF),aC (some v) h K=K v h:=λ_ _=>rfl
 have gK:∀ (s:au) (h:Heap) (K:aF),aC (some (.string s)) h K=K (.string s) h:=λ_ _ _=>rfl
 have df:=λ(hh:Heap)=>hv.bo dr hh
 refine Ok.aw 47 (bq Ke) ?_
 simp only [aa,seval,fS,gZ,bR,df]
 refine bn (λh1=>?_) (λh1=>?_)
 .rw [zpp (.inl (by omega))] at hk
  simp only [aa,seval,fS]
  exact hk _ z.aA
 simp only [aa,seval,fS]
 refine bn (λh2=>?_) (λh2=>?_)
 .rw [zpp (.inr (by omega))] at hk
  simp only [aa,seval,fS]
  exact hk _ z.aA
 have BJ:wi ps c=ji (λpre w=>jN [bm (!cp ps w) 6,bm (decide (w=c.who)) 11,bm (cp pre w) 5]) [] c.reads:=az (by omega)
 rw [BJ] at hk
 obtain ⟨F,hF⟩:∃ F:List au->au->Int,F=λpre w=>jN [bm (!cp ps w) 6,bm (decide (w=c.who)) 11,bm (cp pre w) 5]:=⟨_,rfl⟩
 rw [<- hF] at hk
 simp only [aa,seval,fS,bR,df]
 refine na (λh' x hq=>?_)
 have q0:=hq 0 _ rfl
 have q1:=hq 1 _ rfl
 clear hq
 (replace z:=z.an x;rw [ao h'])
 obtain ⟨A0,el⟩:∃ A0,A0=h.size+0:=⟨_,rfl⟩
 rw [<- el] at q0
 rw [<- el]
 obtain ⟨A1,oC⟩:∃ A1,A1=h.size+1:=⟨_,rfl⟩
 rw [<- oC] at q1
 rw [<- oC]
 obtain ⟨I1,aU⟩:∃ I:Nat->Env->Heap->Prop,I=(λn e h'=>∃ (i:Nat) (h1:Heap),h'=h1.lay [] h1.low/\Ext h h1/\(n=c.reads.length - i/\i<=c.reads.length/\Holds h1 A0 (.row (du p0 p1 p2 p5 p6 q b) 28 false)/\Holds h1 A1 (.row [.string c.who,v] 64 false)/\ji F [] c.reads=ji F (c.reads.take i) (c.reads.drop i))/\∃ J:Nat->ab,e=(jr J 0 2 (.pointer (some ⟨A0,0,none⟩)::.pointer (some ⟨A1,0,none⟩)::jr J 4 15 (v::.int .i64 c.reads.length::.int .i64 i::jr J 22 27 ([]))))):=⟨_,rfl⟩
 refine dA I1 _ (by rw [aU];exact ⟨0,_,rfl,z,⟨rfl,by omega,q0,q1,rfl⟩,bl⟩) ?_
 intro n e h' aO
 rw [aU] at aO
 obtain ⟨i,bC,rfl,z,hinv,J,rfl⟩:=aO
 clear q0 q1
 obtain ⟨rfl,hi,q0,q1,ky⟩:=hinv
 have hw:=ei i (by omega)
 simp only [aa,seval,fS]
 refine bn (λaT=>?_) (λaT=>?_)
 rotate_left
 .rw [ky,Hq (by omega)] at hk
  simp only [aa,seval,fS]
  exact hk _ z.aA
 obtain ⟨r,hr,cw⟩:=eW (l:=c.reads) (i:=i) (by omega)
 rw [ky,uB cw] at hk
 have qz:F (c.reads.take i) r=jN [bm (!cp ps r) 6,bm (decide (r=c.who)) 11,bm (cp (c.reads.take i) r) 5]:=by rw [hF]
 obtain ⟨a,m,cc,g1,g2⟩:=zzv hv i hi
 have iZ:∀ (h:Heap) (K:aF),aC (some (.slice a m cc)) h K=K (.slice a m cc) h:=λ_ _=>rfl
 simp only [aa,seval,fS]
 repeat' ((first|with_reducible refine rK (hv.mono z.inc) dr px (by omega) hr (λp hp=>?_)|with_reducible refine gj hp j9 ?_) <;> simp only [aa,seval,fS])
 clear hp
 with_reducible first|refine dL (by simp only [fS]) z.aA ?_
 simp only [aa,seval,fS,q0.lay,↓fA,eV,eI]
 refine PQ ps r _ _ _ _ _ _ _ _ ((h0.mono z.inc).lay _ _) hs _ (λh' x=>?_)
 (((with_reducible refine cU ?_ ?_ ?_);(· exact (by (simp only [ck]);have:=z.size;omega));(· exact x));replace z:=z.an x;replace q0:=q0.over x;replace q1:=q1.over x;rw [ao h'])
 simp only [aa,seval,fS]
 (with_reducible apply bX);(· rfl)
 simp only [aa,seval,fS]
 refine oh _ _ _ _ (λh' f1 x r1=>?_)
 (((with_reducible refine cU ?_ ?_ ?_);(· exact (by (simp only [ck]);have:=z.size;omega));(· exact x));replace z:=z.an x;replace q0:=q0.over x;replace q1:=q1.over x;rw [ao h'])
 simp only [aa,seval,fS,q1.lay,gK]
 rw [As]
 simp only [aa,seval,fS]
 refine oh _ _ _ _ (λh' f2 x r2=>?_)
 (((with_reducible refine cU ?_ ?_ ?_);(· exact (by (simp only [ck]);have:=z.size;omega));(· exact x));replace z:=z.an x;replace q0:=q0.over x;replace q1:=q1.over x;replace r1:=r1.over x;rw [ao h'])
 simp only [aa,seval,fS,q1.lay,bR,g1,iZ]
 refine I9 (c.reads.take i) _ r _ ((g2.mono z.inc).lay _ _) (by rw [gh];omega) _ (λh' x=>?_)
 (((with_reducible refine cU ?_ ?_ ?_);(· exact (by (simp only [ck]);have:=z.size;omega));(· exact x));replace z:=z.an x;replace q0:=q0.over x;replace q1:=q1.over x;replace r1:=r1.over x;replace r2:=r2.over x;rw [ao h'])
 simp only [aa,seval,fS]
 refine oh _ _ _ _ (λh' f3 x r3=>?_)
 (((with_reducible refine cU ?_ ?_ ?_);(· exact (by (simp only [ck]);have:=z.size;omega));(· exact x));replace z:=z.an x;replace q0:=q0.over x;replace q1:=q1.over x;replace r1:=r1.over x;replace r2:=r2.over x;rw [ao h'])
 obtain ⟨k1,u1,v1,rfl⟩:=r1.1
 obtain ⟨k2,u2,v2,rfl⟩:=r2.1
 obtain ⟨k3,u3,v3,rfl⟩:=r3.1
 simp only [aa,seval,fS]
 refine w8 (by have:=z.size;omega) (by omega) ?_
 simp only [aa,seval,fS]
 refine Au [.func k1 u1 v1,.func k2 u2 v2,.func k3 u3 v3] [bm (!cp ps r) 6,bm (decide (r=c.who)) 11,bm (cp (c.reads.take i) r) 5] _ _ (AG (i:=0) rfl rfl rfl (by simp)) (by simp) rfl (λi fv e h1 h2=>?_) _ (λh' x=>?_)
 .match i,h1,h2 with
  |0,h1,h2=>cases h1;cases h2;exact r1.lay _ _
  |1,h1,h2=>cases h1;cases h2;exact r2.lay _ _
  |2,h1,h2=>cases h1;cases h2;exact r3.lay _ _
 (((with_reducible refine cU ?_ ?_ ?_);(· exact (by (simp only [ck]);have:=z.size;omega));(· exact x));replace z:=z.an x;replace q0:=q0.over x;replace q1:=q1.over x;replace r1:=r1.over x;replace r2:=r2.over x;replace r3:=r3.over x;rw [ao h'])
 rw [<- qz]
 clear r1 r2 r3
 simp only [aa,seval,fS]
 ((with_reducible refine ⟨z.cn.lay _ _,?_⟩);(intro _ h' zz x _);(simp only [bM,bu] at x);replace q0:=q0.over x;replace q1:=q1.over x;(replace z:=zz);(clear zz);rw [ao h'])
 simp only [aa,seval,fS]
 refine gg (λaQ=>?_) (λheq=>?_)
 .rw [az aQ] at hk
  simp only [aa,seval,fS]
  exact hk _ z.aA
 rw [aE heq] at hk
 simp only [aa,seval,fS]
 rw [hw]
 (rw [aU];with_reducible refine cy (m:=_) ?_ ⟨i+1,_,rfl,z,⟨rfl,by omega,q0,q1,by rw [ky,uB cw,aE heq]⟩,bl⟩;omega)
theorem zt6 (ps:List au) (c:bz) (v:ab) (p0 p1 p2 p5 p6:ab) (q b:Int) (A B:Nat) (h:Heap) (bf:(du p0 p1 p2 p5 p6 q b).all Am.one=true) (h0:Sl aM.str h p0 ps) (hs:ps.length<=1000) (hv:Sl aM.str h v c.reads) (q0:Holds h A (.row (du p0 p1 p2 p5 p6 q b) 28 false)) (q1:Holds h B (.row [.string c.who,v] 64 false)) (K:aF) (hk:∀ h',Ext h h'->K (.int .i64 (wi ps c)) h'):Ok prog aD ov 119 [.pointer (some ⟨A,0,none⟩),.pointer (some ⟨B,0,none⟩)] h K:=by
 rw [ao h]
 have z:=Ext.refl h
 refine Ok.aw 4 (bq Kd) ?_
 simp only [aa,seval,Lo,q0.lay,q1.lay,↓fA,eV,eI]
 refine zwZ ps c v _ _ _ _ _ _ _ _ bf (h0.lay _ _) hs (hv.lay _ _) _ (λh' x=>?_)
 (replace z:=z.an x;rw [ao h'])
 simp only [aa,seval,Lo]
 exact hk _ z.aA
theorem zEW (h:Heap) (l:List ba) (w i o:Nat) (v:ab) (hi:i < l.length):iH aD 64 (.pointer (some ⟨h.size+i,o,none⟩)) v (h.lay l w)=if v.cells.size=2 then tI l[i]? i o v.cells.toList h l w else none:=xk kM h l w i o v hi
theorem zt8 (d:aq) (p0 p1 p2 p5 p6:ab) (q b:Int) (h:Heap) (bf:(du p0 p1 p2 p5 p6 q b).all Am.one=true) (h0:Sl aM.str h p0 d.ah) (h2:Sl aM.clear h p2 d.aR) (hs:d.ah.length<=1000) (gV:d.aR.length<=1000) (K:aF) (hk:∀ h',Ext h h'->K (.int .i64 (HB d.ah d.aR)) h'):Ok prog aD ov 71 [fI p0 p1 p2 p5 p6 q b] h K:=by
 rw [ao h]
 have z:=Ext.refl h
 have bR:∀ (h:Heap) (K:aF),aC (some p2) h K=K p2 h:=λ_ _=>rfl
 have gK:∀ (s:au) (h:Heap) (K:aF),aC (some (.string s)) h K=K (.string s) h:=λ_ _ _=>rfl
 have df:=λ(hh:Heap)=>h2.bo jT hh
 obtain ⟨F,hF⟩:∃ F:List bz->bz->Int,F=λpre c=>jN [bm (!cp d.ah c.who) 6,bm (cp (pre.map bz.who) c.who) 5,wi d.ah c]:=⟨_,rfl⟩
 have BJ:HB d.ah d.aR=ji F [] d.aR:=by rw [hF];rfl
 rw [BJ] at hk
 refine Ok.aw 42 (bq N71) ?_
 simp only [aa,seval,qU,Hv,gZ,fN,bR,df]
 refine na (λh' x hq=>?_)
 have q0:=hq 0 _ rfl
 have q1:=hq 1 _ rfl
 clear hq
 (replace z:=z.an x;rw [ao h'])
 obtain ⟨A0,el⟩:∃ A0,A0=h.size+0:=⟨_,rfl⟩
 rw [<- el] at q0
 rw [<- el]
 obtain ⟨M,hM⟩:∃ M,M=h.size+1:=⟨_,rfl⟩
 rw [<- hM] at q1
 rw [<- hM]
 have hAM:A0≠M:=by omega
 obtain ⟨I1,aU⟩:∃ I:Nat->Env->Heap->Prop,I=(λn e h'=>∃ (i:Nat) (h1:Heap),h'=h1.lay [] h1.low/\Ext h h1/\(n=d.aR.length - i/\i<=d.aR.length/\Holds h1 A0 (.row (du p0 p1 p2 p5 p6 q b) 28 false)/\dF Value.string h1 M ((d.aR.take i).map bz.who)/\ji F [] d.aR=ji F (d.aR.take i) (d.aR.drop i))/\∃ J:Nat->ab,e=(J 0::.pointer (some ⟨A0,0,none⟩)::J 2::.map (some M)::jr J 4 7 (p2::.int .i64 d.aR.length::.int .i64 i::jr J 14 29 ([])))):=⟨_,rfl⟩
 refine dA I1 _ (by rw [aU];exact ⟨0,_,rfl,z,⟨rfl,by omega,q0,dF.new q1,rfl⟩,bl⟩) ?_
 intro n e h' aO
 rw [aU] at aO
 obtain ⟨i,bC,rfl,z,hinv,J,rfl⟩:=aO
 clear q0 q1
 obtain ⟨rfl,hi,q0,q1,ky⟩:=hinv
 have hw:=ei i (by omega)
 simp only [aa,seval,qU]
 refine bn (λaT=>?_) (λaT=>?_)
 rotate_left
 .rw [ky,Hq (by omega)] at hk
  simp only [aa,seval,qU]
  exact hk _ z.aA
 obtain ⟨r,hr,cw⟩:=eW (l:=d.aR) (i:=i) (by omega)
 rw [ky,uB cw] at hk
 have qz:F (d.aR.take i) r=jN [bm (!cp d.ah r.who) 6,bm (cp ((d.aR.take i).map bz.who) r.who) 5,wi d.ah r]:=by rw [hF]
 simp only [aa,seval,qU]
 refine CD (h2.mono z.inc) jT kM (by omega) hr (λp v hv hp=>?_)
 have Dx:Am.one v=true:=hv.one
 obtain ⟨av,nv,cv,rfl⟩:=Jm hv
 repeat' (first|simp only [aa,seval,qU]|with_reducible refine GY hp xF kM ?_)
 simp only [aa,seval,qU,sg,nU,oX,Am.one,sC,oV,zEW,D6,gK]
 refine zhw q1 JK uW zx1 ?_
 simp only [aa,seval,qU]
 rw [As]
 simp only [aa,seval,qU,sg,oX,sC,oV,JT,zrv]
 clear hp
 simp only [aa,seval,qU,q0.lay,gK,↓fA,eV,eI]
 refine PQ d.ah r.who _ _ _ _ _ _ _ _ ((h0.mono z.inc).lay _ _) hs _ (λh' x=>?_)
 have e0:=Holds.top (i:=0) x rfl
 (replace z:=z.an x;replace q0:=q0.over x;replace q1:=q1.over x;replace hv:=hv.over x;rw [ao h'])
 obtain ⟨E0,oD⟩:∃ E0,E0=bC.size+0:=⟨_,rfl⟩
 rw [<- oD] at e0
 rw [<- oD]
 simp only [aa,seval,qU]
 (with_reducible apply bX);(· rfl)
 simp only [aa,seval,qU]
 refine oh _ _ _ _ (λh' f1 x r1=>?_)
 (replace z:=z.an x;replace q0:=q0.over x;replace q1:=q1.over x;replace e0:=e0.over x;replace hv:=hv.over x;rw [ao h'])
 simp only [aa,seval,qU]
 refine oh _ _ _ _ (λh' f2 x r2=>?_)
 (replace z:=z.an x;replace q0:=q0.over x;replace q1:=q1.over x;replace e0:=e0.over x;replace hv:=hv.over x;replace r1:=r1.over x;rw [ao h'])
 have r3:fp h' (.func (.func 119) ⟨[]⟩ ⟨[.pointer (some ⟨A0,0,none⟩),.pointer (some ⟨E0,0,none⟩)]⟩) (wi d.ah r):=⟨⟨_,_,_,rfl⟩,λhc K2 y gz=>by
  rw [vV]
  exact zt6 d.ah r _ _ _ _ _ _ _ _ A0 E0 hc bf ((h0.mono z.inc).mono y.all) hs (hv.mono y.all) (Holds.di q0 y) (Holds.di e0 y) K2 gz⟩
 obtain ⟨k1,u1,v1,rfl⟩:=r1.1
 obtain ⟨k2,u2,v2,rfl⟩:=r2.1
 simp only [aa,seval,qU]
 refine Au [.func k1 u1 v1,.func k2 u2 v2,.func (.func 119) ⟨[]⟩ ⟨[.pointer (some ⟨A0,0,none⟩),.pointer (some ⟨E0,0,none⟩)]⟩] [bm (!cp d.ah r.who) 6,bm (cp ((d.aR.take i).map bz.who) r.who) 5,wi d.ah r] _ _ (AG (i:=0) rfl rfl rfl (by simp)) (by simp) rfl (λi fv e h1 h2=>?_) _ (λh' x=>?_)
 .match i,h1,h2 with
  |0,h1,h2=>cases h1;cases h2;exact r1.lay _ _
  |1,h1,h2=>cases h1;cases h2;exact r2.lay _ _
  |2,h1,h2=>cases h1;cases h2;exact r3.lay _ _
 (replace z:=z.an x;replace q0:=q0.over x;replace q1:=q1.over x;replace e0:=e0.over x;replace hv:=hv.over x;replace r1:=r1.over x;replace r2:=r2.over x;rw [ao h'])
 rw [<- qz]
 clear r1 r2 r3
 simp only [aa,seval,qU]
 refine gg (λaQ=>?_) (λheq=>?_)
 .rw [az aQ] at hk
  simp only [aa,seval,qU]
  exact hk _ z.aA
 rw [aE heq] at hk
 have Mk:h.size<=M:=by omega
 simp only [aa,seval,qU,e0.lay,gK,zqq,PW]
 refine zng q1 JK uW (λh3 q3 qV=>?_)
 replace z:=z.cM qV Mk (by omega)
 replace q0:=q0.br qV hAM
 rw [ao h3]
 simp only [aa,seval,qU]
 rw [hw]
 have mX:(d.aR.take (i+1)).map bz.who=(d.aR.take i).map bz.who++[r.who]:=by rw [oW,cw];simp
 rw [<- mX] at q3
 (rw [aU];with_reducible refine cy (m:=_) ?_ ⟨i+1,_,rfl,z,⟨rfl,by omega,q0,q3,by rw [ky,uB cw,aE heq]⟩,bl⟩;omega)
theorem zpD (a:ak):a.val.cells.size=11:=rfl
theorem zoS (a:ak):a.cells.length=11:=rfl
theorem zpc (a:ak):a.cells.all Am.one=true:=rfl
theorem zq2 {d:aq} (h:d.i6 < 0\/1000 < d.i6\/d.fE < 1\/1048576 < d.fE\/64 < d.rules.length+d.bK.length):Hx d=bm true 4:=by
 unfold Hx
 congr 1
 simp only [sB,jH]
 omega
theorem zo0 {d:aq} (h:¬ (d.i6 < 0\/1000 < d.i6\/d.fE < 1\/1048576 < d.fE\/64 < d.rules.length+d.bK.length)):Hx d=bm false 4:=by
 unfold Hx
 congr 1
 simp only [Bool.or_eq_false_iff,decide_eq_false_iff_not]
 omega
theorem zq9 (d:aq) (p0 p1 p2 p5 p6:ab) (q b:Int) (h:Heap) (hq:d.i6=q) (hb:d.fE=b) (h5:Sl aM.clause h p5 d.rules) (h6:Sl aM.qW h p6 d.bK) (yR:d.rules.length<=1000) (hs6:d.bK.length<=1000) (K:aF) (hk:∀ h',Ext h h'->K (.int .i64 (Hx d)) h'):Ok prog aD ov 72 [fI p0 p1 p2 p5 p6 q b] h K:=by
 rw [ao h]
 have z:=Ext.refl h
 have kU:∀ (h:Heap) (K:aF),aC (some p5) h K=K p5 h:=λ_ _=>rfl
 have lY:∀ (h:Heap) (K:aF),aC (some p6) h K=K p6 h:=λ_ _=>rfl
 have nY:=λ(hh:Heap)=>h5.bo my hh
 have mW:=λ(hh:Heap)=>h6.bo nu hh
 have hw:IntKind.i64.wrap ((d.rules.length:Int)+(d.bK.length:Int))=((d.rules.length+d.bK.length:Nat):Int):=by rw [wrap_i64 (by omega) (by omega)];omega
 refine Ok.aw 38 (bq N72) ?_
 simp only [aa,seval,RF,gZ,G4]
 repeat' ((with_reducible refine bn (λ_=>?_) (λ_=>?_)) <;> simp only [aa,seval,RF,G4,N4,gY,iw,kU,lY,nY,mW,hw])
 all_goals
  refine oh _ _ _ _ (λh' f1 x r1=>?_)
  (replace z:=z.an x;rw [ao h'])
  obtain ⟨k1,u1,v1,rfl⟩:=r1.1
  simp only [aa,seval,RF]
  refine r1.2 _ _ (aL.lay _ _ _ _) (λh' x=>?_)
  (replace z:=z.an x;rw [ao h'])
  first
   |rw [zq2 (by omega)] at hk
   |rw [zo0 (by omega)] at hk
  simp only [aa,seval,RF]
  exact hk _ z.aA
theorem zt3 (d:aq) (a:ak) (p0 p1 p2 p5 p6:ab) (q b:Int) (A B:Nat) (h:Heap) (cG:bd 1 h) (bf:(du p0 p1 p2 p5 p6 q b).all Am.one=true) (h0:Sl aM.str h p0 d.ah) (h1:Sl aM.pred h p1 d.bZ) (hs:d.ah.length<=1000) (q0:Holds h A (.row (du p0 p1 p2 p5 p6 q b) 28 false)) (q1:Holds h B (.row a.cells 47 false)) (K:aF) (hk:∀ h',Ext h h'->K (.int .i64 (rP d a)) h'):Ok prog aD ov 157 [.pointer (some ⟨A,0,none⟩),.pointer (some ⟨B,0,none⟩)] h K:=by
 rw [ao h]
 have z:=Ext.refl h
 refine Ok.aw 4 (bq KH) ?_
 simp only [aa,seval,Ly,q0.lay,q1.lay,↓fA,eV,eI,↓eY,eJ,dX]
 refine zmZ d a _ _ _ _ _ _ _ _ (cG.lay _ _) bf (h0.lay _ _) (h1.lay _ _) hs _ (λh' x=>?_)
 (replace z:=z.an x;rw [ao h'])
 simp only [aa,seval,Ly]
 exact hk _ z.aA
theorem zt4 (d:aq) (l:aS) (v:ab) (p0 p1 p2 p5 p6:ab) (q b:Int) (A B:Nat) (h:Heap) (cG:bd 1 h) (bf:(du p0 p1 p2 p5 p6 q b).all Am.one=true) (h0:Sl aM.str h p0 d.ah) (h1:Sl aM.pred h p1 d.bZ) (hs:d.ah.length<=1000) (hl:Sl aM.atom h v l) (gV:l.length<=1000) (q0:Holds h A (.row (du p0 p1 p2 p5 p6 q b) 28 false)) (q1:Holds h B (.row [v] 38 false)) (K:aF) (hk:∀ h',Ext h h'->K (.int .i64 (Rl d l)) h'):Ok prog aD ov 158 [.pointer (some ⟨B,0,none⟩),.pointer (some ⟨A,0,none⟩)] h K:=by
 rw [ao h]
 have z:=Ext.refl h
 have bR:∀ (h:Heap) (K:aF),aC (some v) h K=K v h:=λ_ _=>rfl
 have df:=λ(hh:Heap)=>hl.bo bJ hh
 obtain ⟨F,hF⟩:∃ F:aS->ak->Int,F=λ_ a=>rP d a:=⟨_,rfl⟩
 have BJ:Rl d l=ji F [] l:=by rw [hF];rfl
 rw [BJ] at hk
 refine Ok.aw 17 (bq KI) ?_
 simp only [aa,seval,pK,q1.lay,bR,df]
 obtain ⟨I1,aU⟩:∃ I:Nat->Env->Heap->Prop,I=(λn e h'=>∃ (i:Nat) (h1:Heap),h'=h1.lay [] h1.low/\Ext h h1/\(n=l.length - i/\i<=l.length/\Holds h1 A (.row (du p0 p1 p2 p5 p6 q b) 28 false)/\ji F [] l=ji F (l.take i) (l.drop i))/\∃ J:Nat->ab,e=(J 0::.pointer (some ⟨A,0,none⟩)::jr J 2 4 (v::.int .i64 l.length::.int .i64 i::jr J 9 10 ([])))):=⟨_,rfl⟩
 refine dA I1 _ (by rw [aU];exact ⟨0,_,rfl,z,⟨rfl,by omega,q0,rfl⟩,bl⟩) ?_
 intro n e h' aO
 rw [aU] at aO
 obtain ⟨i,bC,rfl,z,hinv,J,rfl⟩:=aO
 clear q0
 obtain ⟨rfl,hi,q0,ky⟩:=hinv
 have hw:=ei i (by omega)
 simp only [aa,seval,pK]
 refine bn (λaT=>?_) (λaT=>?_)
 rotate_left
 .rw [ky,Hq (by omega)] at hk
  simp only [aa,seval,pK]
  exact hk _ z.aA
 obtain ⟨r,hr,cw⟩:=eW (l:=l) (i:=i) (by omega)
 rw [ky,uB cw] at hk
 have qz:F (l.take i) r=rP d r:=by rw [hF]
 simp only [aa,seval,pK]
 repeat' ((first|with_reducible refine qI (hl.mono z.inc) bJ bH (by omega) hr (λp hp=>?_)|with_reducible refine ma hp eP bH ?_) <;> simp only [aa,seval,pK])
 clear hp
 simp only [aa,seval,pK,sg,sC,oV,Cf,zpD,zoS,zpc,q0.lay,↓fA,eV,eI,eE,↓eY,eJ,dX]
 refine zmZ d r _ _ _ _ _ _ _ _ ((cG.ext z).lay _ _) bf ((h0.mono z.inc).lay _ _) ((h1.mono z.inc).lay _ _) hs _ (λh' x=>?_)
 (replace z:=z.an x;replace q0:=q0.over x;rw [ao h'])
 rw [<- qz]
 simp only [aa,seval,pK]
 refine gg (λaQ=>?_) (λheq=>?_)
 .rw [az aQ] at hk
  simp only [aa,seval,pK]
  exact hk _ z.aA
 rw [aE heq] at hk
 simp only [aa,seval,pK]
 rw [hw]
 (rw [aU];with_reducible refine cy (m:=_) ?_ ⟨i+1,_,rfl,z,⟨rfl,by omega,q0,by rw [ky,uB cw,aE heq]⟩,bl⟩;omega)
theorem zlB (d:aq) (a:ak) (l:aS) (v:ab) (p0 p1 p2 p5 p6:ab) (q b:Int) (h:Heap) (cG:bd 1 h) (bf:(du p0 p1 p2 p5 p6 q b).all Am.one=true) (h0:Sl aM.str h p0 d.ah) (h1:Sl aM.pred h p1 d.bZ) (hs:d.ah.length<=1000) (hl:Sl aM.atom h v l) (gV:l.length<=1000) (K:aF) (hk:∀ h',Ext h h'->K (.int .i64 (Az d a l)) h'):Ok prog aD ov 122 [fI p0 p1 p2 p5 p6 q b,a.val,v] h K:=by
 rw [ao h]
 have z:=Ext.refl h
 have bR:∀ (h:Heap) (K:aF),aC (some v) h K=K v h:=λ_ _=>rfl
 have df:=λ(hh:Heap)=>hl.bo bJ hh
 obtain ⟨av,nv,cv,rfl⟩:=Jm hl
 refine Ok.aw 12 (bq Kg) ?_
 simp only [aa,seval,A7,gZ,eE,bR,df]
 rw [As]
 simp only [aa,seval,A7]
 refine oh _ _ _ _ (λh' f1 x r1=>?_)
 have q0:=Holds.top (i:=0) x rfl
 have q1:=Holds.top (i:=1) x rfl
 have q2:=Holds.top (i:=2) x rfl
 (replace z:=z.an x;rw [ao h'])
 obtain ⟨A0,el⟩:∃ A0,A0=h.size+0:=⟨_,rfl⟩
 rw [<- el] at q0
 rw [<- el]
 obtain ⟨A1,oC⟩:∃ A1,A1=h.size+1:=⟨_,rfl⟩
 rw [<- oC] at q1
 rw [<- oC]
 obtain ⟨A2,Ix⟩:∃ A2,A2=h.size+2:=⟨_,rfl⟩
 rw [<- Ix] at q2
 rw [<- Ix]
 have r0:fp h' (.func (.func 157) ⟨[]⟩ ⟨[.pointer (some ⟨A0,0,none⟩),.pointer (some ⟨A1,0,none⟩)]⟩) (rP d a):=⟨⟨_,_,_,rfl⟩,λhc K2 y gz=>by
  rw [vV]
  exact zt3 d a _ _ _ _ _ _ _ A0 A1 hc (Holds.di (cG.ext z) y) bf ((h0.mono z.inc).mono y.all) ((h1.mono z.inc).mono y.all) hs (Holds.di q0 y) (Holds.di q1 y) K2 gz⟩
 have r2:fp h' (.func (.func 158) ⟨[]⟩ ⟨[.pointer (some ⟨A2,0,none⟩),.pointer (some ⟨A0,0,none⟩)]⟩) (Rl d l):=⟨⟨_,_,_,rfl⟩,λhc K2 y gz=>by
  rw [vV]
  exact zt4 d l _ _ _ _ _ _ _ _ A0 A2 hc (Holds.di (cG.ext z) y) bf ((h0.mono z.inc).mono y.all) ((h1.mono z.inc).mono y.all) hs ((hl.mono z.inc).mono y.all) gV (Holds.di q0 y) (Holds.di q2 y) K2 gz⟩
 obtain ⟨k1,u1,v1,rfl⟩:=r1.1
 simp only [aa,seval,A7]
 refine Au [.func (.func 157) ⟨[]⟩ ⟨[.pointer (some ⟨A0,0,none⟩),.pointer (some ⟨A1,0,none⟩)]⟩,.func k1 u1 v1,.func (.func 158) ⟨[]⟩ ⟨[.pointer (some ⟨A2,0,none⟩),.pointer (some ⟨A0,0,none⟩)]⟩] [rP d a,bm (decide (6 < l.length)) 4,Rl d l] _ _ (AG (i:=0) rfl rfl rfl (by simp)) (by simp) rfl (λi fv e h1 h2=>?_) _ (λh' x=>?_)
 .match i,h1,h2 with
  |0,h1,h2=>cases h1;cases h2;exact r0.lay _ _
  |1,h1,h2 =>
   cases h1;cases h2
   have e:decide (6 < l.length)=decide ((l.length:Int) > 6):=by rw [Bool.eq_iff_iff,decide_eq_true_iff,decide_eq_true_iff];omega
   rw [e]
   exact r1.lay _ _
  |2,h1,h2=>cases h1;cases h2;exact r2.lay _ _
 (replace z:=z.an x;replace q0:=q0.over x;replace q1:=q1.over x;replace q2:=q2.over x;replace r1:=r1.over x;rw [ao h'])
 simp only [aa,seval,A7]
 exact hk _ z.aA
theorem zrk (a:ak) (v:ab):(a.cells++[v])[11]? = some v:=rfl
theorem zCK (a:ak) (v:ab):cut (a.cells++[v]) 0 11=some a.cells:=rfl
theorem zEY:su aD 22 22=true:=by kernel_rfl
theorem zo7 (l:List au) (v fv:ab) (pr:au->Bool) (h:Heap) (hl:Sl aM.str h v l) (hs:l.length<=1000) (BK:∀ (x:au) (hc:Heap) (K:aF),Ext h hc->(∀ h',Ext hc h'->K (.bool (pr x)) h')->oU prog aD ov [.string x] hc K fv) (K:aF)
 (hk:∀ h',Ext h h'->K (.int .i64 (kE pr l)) h'):Ok prog aD ov 178 [v,fv] h K:=by
 rw [ao h]
 have z:=Ext.refl h
 have df:=λ(hh:Heap)=>hl.bo dr hh
 refine Ok.aw 17 (bq KU) ?_
 simp only [aa,seval,sO,df]
 obtain ⟨I1,aU⟩:∃ I:Nat->Env->Heap->Prop,I=(λn e h'=>∃ (i:Nat) (h1:Heap),h'=h1.lay [] h1.low/\Ext h h1/\(n=l.length - i/\i<=l.length/\∀ x∈l.take i,pr x=false)/\∃ J:Nat->ab,e=(v::fv::jr J 2 5 (.int .i64 l.length::.int .i64 i::jr J 9 10 ([])))):=⟨_,rfl⟩
 refine dA I1 _ (by rw [aU];exact ⟨0,_,rfl,z,⟨rfl,by omega,by simp⟩,bl⟩) ?_
 intro n e h' aO
 rw [aU] at aO
 obtain ⟨i,bC,rfl,z,hinv,J,rfl⟩:=aO
 obtain ⟨rfl,hi,aH⟩:=hinv
 have hw:=ei i (by omega)
 simp only [aa,seval,sO]
 refine bn (λaT=>?_) (λaT=>?_)
 rotate_left
 .rw [gE (by omega)] at aH
  have:=Jp aH
  rw [this] at hk
  simp only [aa,seval,sO]
  exact hk _ z.aA
 obtain ⟨r,hr,cw⟩:=eW (l:=l) (i:=i) (by omega)
 simp only [aa,seval,sO]
 repeat' ((first|with_reducible refine rK (hl.mono z.inc) dr px (by omega) hr (λp hp=>?_)|with_reducible refine gj hp j9 ?_) <;> simp only [aa,seval,sO])
 refine BK _ _ _ z.aA (λh' x=>?_)
 (replace z:=z.an x;rw [ao h'])
 clear hp
 cases hx:pr r
 rotate_left
 .simp only [aa,seval,sO]
  have:=Jj cw aH hx
  rw [this] at hk
  exact hk _ z.aA
 .simp only [aa,seval,sO]
  rw [hw]
  (rw [aU];with_reducible refine cy (m:=_) ?_ ⟨i+1,_,rfl,z,⟨rfl,by omega,qH (i:=i) (P:=λx:au=>pr x=false) cw aH hx⟩,bl⟩;omega)
theorem zjs (l:List au) (v fv:ab) (pr:au->Bool) (h:Heap) (hl:Sl aM.str h v l) (hs:l.length<=1000) (BK:∀ (x:au) (hc:Heap) (K:aF),Ext h hc->(∀ h',Ext hc h'->K (.bool (pr x)) h')->oU prog aD ov [.string x] hc K fv) (K:aF)
 (hk:∀ h',Ext h h'->K (.bool (l.any pr)) h'):Ok prog aD ov 160 [v,fv] h K:=by
 refine Ok.aw 7 (bq KK) ?_
 simp only [aa,seval,E8]
 refine zo7 l v fv pr h hl hs BK _ (λh' x=>?_)
 simp only [aa,seval,E8,TR]
 refine Ru (λhh=>?_) (λhh=>?_)
 all_goals
  simp only [aa,seval,E8]
  rw [hh] at hk
  exact hk _ x
theorem zuj (l:List au) (s:au) (w:ab) (C:Nat) (h:Heap) (q:Holds h C (.row [w] 22 false)) (hl:Sl aM.str h w l) (hs:l.length<=1000) (K:aF) (hk:∀ h',Ext h h'->K (.bool (!cp l s)) h'):Ok prog aD ov 161 [.string s,.pointer (some ⟨C,0,none⟩)] h K:=by
 rw [ao h]
 have z:=Ext.refl h
 have iZ:∀ (h:Heap) (K:aF),aC (some w) h K=K w h:=λ_ _=>rfl
 refine Ok.aw 6 (bq KL) ?_
 simp only [aa,seval,E9,q.lay,iZ]
 refine I9 l w s _ (hl.lay _ _) hs _ (λh' x=>?_)
 (replace z:=z.an x;rw [ao h'])
 simp only [aa,seval,E9]
 (with_reducible apply bX);(· rfl)
 simp only [aa,seval,E9]
 exact hk _ z.aA
open Classical in
theorem zuy {c:cB} {m:List au} (hl:∀ x,x∈l↔CN c.head x) (hm:∀ x,x∈m↔∃ a∈c.body,CN a x):HG c=bm (l.any λv => !cp m v) 9:=by
 unfold HG
 congr 1
 rw [Bool.eq_iff_iff,decide_eq_true_iff,xy]
 constructor
 .rintro ⟨x,h1,h2⟩
  refine ⟨x,(hl x).2 h1,?_⟩
  have:cp m x=false:=Bool.eq_false_iff.2 (λhh=>by
   obtain ⟨a,ha,hv⟩:=(hm x).1 (dw.1 hh)
   exact h2 a ha hv)
  rw [this];rfl
 .rintro ⟨x,h1,h2⟩
  refine ⟨x,(hl x).1 h1,λa ha hv=>?_⟩
  have:cp m x=true:=dw.2 ((hm x).2 ⟨a,ha,hv⟩)
  rw [this] at h2
  simp at h2
theorem zul (c:cB) (v:ab) (h:Heap) (hl:Sl aM.atom h v c.body) (hs:c.body.length<=200) (K:aF) (hk:∀ h',Ext h h'->K (.int .i64 (HG c)) h'):Ok prog aD ov 124 [.agg ⟨c.head.cells++[v]⟩] h K:=by
 rw [ao h]
 have z:=Ext.refl h
 have bR:∀ (h:Heap) (K:aF),aC (some v) h K=K v h:=λ_ _=>rfl
 have df:=λ(hh:Heap)=>hl.bo bJ hh
 refine Ok.aw 26 (bq Ki) ?_
 simp only [aa,seval,jS,zrk,bR,df]
 refine na (λh' x hq=>?_)
 have q0:=hq 0 _ rfl
 have q1:=hq 1 _ rfl
 clear hq
 (replace z:=z.an x;rw [ao h'])
 obtain ⟨A0,el⟩:∃ A0,A0=h.size+0:=⟨_,rfl⟩
 rw [<- el] at q0
 rw [<- el]
 obtain ⟨C,hC⟩:∃ C,C=h.size+1:=⟨_,rfl⟩
 rw [<- hC] at q1
 rw [<- hC]
 obtain ⟨I1,aU⟩:∃ I:Nat->Env->Heap->Prop,I=(λn e h'=>∃ (i:Nat) (wv:ab) (A:Nat) (nA:List au) (h1:Heap),h'=h1.lay [] h1.low/\Ext h h1/\(n=c.body.length - i/\i<=c.body.length/\Holds h1 A0 (.row (c.head.cells++[v]) 67 false)/\Holds h1 C (.row [wv] 22 false)/\Ow aM.str h h1 9 A wv nA/\C < A/\nA.length<=4*i/\(∀ x,x∈nA↔∃ a∈c.body.take i,CN a x))/\∃ J:Nat->ab,e=(J 0::.pointer (some ⟨A0,0,none⟩)::J 2::.pointer (some ⟨C,0,none⟩)::jr J 4 4 (v::.int .i64 c.body.length::.int .i64 i::jr J 11 16 ([])))):=⟨_,rfl⟩
 refine dA I1 _ (by rw [aU];exact ⟨0,.slice none 0 0,C+1,[],_,rfl,z,⟨rfl,by omega,q0,q1,Ow.nil (by omega),by omega,by simp,by simp⟩,bl⟩) ?_
 intro n e h' aO
 rw [aU] at aO
 obtain ⟨i,wv,A,nA,bC,rfl,z,hinv,J,rfl⟩:=aO
 clear q0 q1
 obtain ⟨rfl,hi,q0,q1,ow,FC,hhl,b8⟩:=hinv
 have hw:=ei i (by omega)
 have iZ:∀ (h:Heap) (K:aF),aC (some wv) h K=K wv h:=λ_ _=>rfl
 simp only [aa,seval,jS]
 refine bn (λaT=>?_) (λaT=>?_)
 .obtain ⟨r,hr,cw⟩:=eW (l:=c.body) (i:=i) (by omega)
  simp only [aa,seval,jS]
  repeat' ((first|with_reducible refine qI (hl.mono z.inc) bJ bH (by omega) hr (λp hp=>?_)|with_reducible refine ma hp eP bH ?_) <;> simp only [aa,seval,jS])
  clear hp
  simp only [aa,seval,jS,sg,sC,oV,Cf,eE,zpD,zoS,zpc]
  with_reducible first|refine dL (by simp only [jS]) z.aA ?_
  simp only [aa,seval,jS,q1.lay,iZ,↓eY,eJ,dX]
  refine zsG r _ _ (λw2 l2 h' x s2 iE kc=>?_)
  (((with_reducible refine cU ?_ ?_ ?_);(· exact (by (simp only [ck]);have:=z.size;omega));(· exact x));replace z:=z.an x;replace q0:=q0.over x;replace q1:=q1.over x;replace ow:=ow.over x;rw [ao h'])
  have YH:∀ (h:Heap) (K:aF),aC (some w2) h K=K w2 h:=λ_ _=>rfl
  simp only [lx,seval,jS,mr,zEY]
  have hz:=z.size
  have dt:=ow.fresh
  have hq1:=q1.lt
  obtain ⟨news,mE,kC⟩:=uF (A:=A) (r:=aM.str) (by decide) (s2.lay [] (h'.size+0)) (λcs y hr=>hr)
  obtain ⟨w3,h3,A3,g1,o3,qV,g4,g5⟩:=AF (t:=22) dr D9 rfl (by decide) (by rw [bc];omega) (ow.mono (bL.lay _ _ _)) mE kC (by omega) (by omega)
  rw [g1]
  have wG:C < A3:=by
   rcases g4 with e|e
   .omega
   .rw [bc] at e;omega
  refine og (A:=A) (by kernel_rfl) (by rw [bc];omega) (by omega) (by simpa only [bM,bc,bu,dn,dN,iU] using qV) ?_
  replace q0:=q0.br qV (by omega)
  replace q1:=q1.br qV (by omega)
  replace z:=(z.kN [] (h'.size+0) (by omega)).step qV (by omega)
  clear ow s2
  rw [ao h3]
  have aey:Am.one w3=true:=(o3.sl (by decide)).one
  obtain ⟨a3,n3,c3,rfl⟩:=Jm (o3.sl (by decide))
  simp only [aa,seval,jS]
  refine zxx q1 ZG rfl rfl rfl (λh4 q4 c4=>?_)
  have Al:=z.size
  replace q4:Holds h4 C (.row [.slice a3 n3 c3] 22 false):=q4
  refine og (A:=C) (by kernel_rfl) (by rw [bc];omega) (by omega) (by simpa only [bM,bc,bu,dn,dN,iU] using c4) ?_
  replace q0:=q0.br c4 (by omega)
  replace o3:=(o3.mono (bL.lay h3 [] (h3.size+0))).turn (λ_ _ _ _ h=>h) c4 (by omega) q4
  replace z:=(z.kN [] (h3.size+0) (by omega)).step c4 (by omega)
  clear q1
  rw [ao h4]
  simp only [lx,seval,jS]
  ((with_reducible refine ⟨z.cn.lay _ _,?_⟩);(intro _ h' zz x _);(simp only [bM,bu] at x);replace q0:=q0.over x;replace q4:=q4.over x;replace o3:=o3.over x;(replace z:=zz);(clear zz);rw [ao h'])
  simp only [aa,seval,jS]
  rw [hw]
  have mX:c.body.take (i+1)=c.body.take i++[r]:=by rw [oW,cw];rfl
  (rw [aU];with_reducible refine cy (m:=_) ?_ ⟨i+1,.slice a3 n3 c3,A3,nA++l2,_,rfl,z,⟨rfl,by omega,q0,q4,o3,wG,by rw [dy];omega,λx=>by rw [mj,b8,kc,mX];simp [or_and_right,exists_or]⟩,bl⟩;omega)
 .rw [gE (by omega)] at b8
  simp only [aa,seval,jS,q0.lay,↓zCK,eJ,dX]
  have sh:=ow.sl (by decide)
  clear ow
  refine zsG c.head _ _ (λw2 l2 h' x s2 iE kc=>?_)
  (replace z:=z.an x;replace q1:=q1.over x;replace sh:=sh.over x;rw [ao h'])
  have YH:∀ (h:Heap) (K:aF),aC (some w2) h K=K w2 h:=λ_ _=>rfl
  simp only [aa,seval,jS]
  refine zjs l2 w2 _ (λv => !cp nA v) _ (s2.lay _ _) (by omega) (λy hc K' xe hK=>by
   rw [vV]
   exact zuj nA y wv C hc ((q1.on _ _).ext xe) ((sh.lay _ _).mono xe.inc) (by omega) K' hK) _ (λh' x=>?_)
  (replace z:=z.an x;replace q1:=q1.over x;replace sh:=sh.over x;rw [ao h'])
  simp only [aa,seval,jS]
  refine oh _ _ _ _ (λh' f1 x r1=>?_)
  (replace z:=z.an x;replace q1:=q1.over x;replace sh:=sh.over x;rw [ao h'])
  obtain ⟨k1,u1,v1,rfl⟩:=r1.1
  simp only [aa,seval,jS]
  refine r1.2 _ _ (aL.lay _ _ _ _) (λh' x=>?_)
  (replace z:=z.an x;replace q1:=q1.over x;replace sh:=sh.over x;rw [ao h'])
  rw [zuy kc b8] at hk
  simp only [aa,seval,jS]
  exact hk _ z.aA
theorem zCJ (a:ak) (v:ab):(a.cells++[v])[0]? = some (.string a.says):=rfl
theorem Oc (a:ak) (v:ab):(a.cells++[v]).length=12:=rfl
theorem Od (a:ak) (x:Option Addr) (n c:Nat):(a.cells++[Value.slice x n c]).all Am.one=true:=rfl
theorem zCL (a:ak) (v:ab):cut (a.cells++[v]) 0 12=some (a.cells++[v]):=rfl
theorem zCS (h:Heap) (l:List ba) (w i o:Nat) (v:ab) (hi:i < l.length):iH aD 67 (.pointer (some ⟨h.size+i,o,none⟩)) v (h.lay l w)=if v.cells.size=12 then tI l[i]? i o v.cells.toList h l w else none:=xk rz h l w i o v hi
theorem WL (s:au) (a:ak) (v:ab):cut (Value.string s::(a.cells++[v])) 1 11=some a.cells:=rfl
theorem zCQ (h:Heap) (l:List ba) (w i o:Nat) (v:ab) (hi:i < l.length):iH aD 70 (.pointer (some ⟨h.size+i,o,none⟩)) v (h.lay l w)=if v.cells.size=13 then tI l[i]? i o v.cells.toList h l w else none:=xk qk h l w i o v hi
theorem zw1 (d:aq) (c:cB) (v:ab) (p0 p1 p2 p5 p6:ab) (q b:Int) (A B:Nat) (h:Heap) (cG:bd 1 h) (bf:(du p0 p1 p2 p5 p6 q b).all Am.one=true) (h0:Sl aM.str h p0 d.ah) (h1:Sl aM.pred h p1 d.bZ) (hs:d.ah.length<=1000) (hl:Sl aM.atom h v c.body) (gV:c.body.length<=1000) (q0:Holds h A (.row (du p0 p1 p2 p5 p6 q b) 28 false)) (q1:Holds h B (.row (c.head.cells++[v]) 67 false)) (K:aF) (hk:∀ h',Ext h h'->K (.int .i64 (Az d c.head c.body)) h'):Ok prog aD ov 121 [.pointer (some ⟨A,0,none⟩),.pointer (some ⟨B,0,none⟩)] h K:=by
 rw [ao h]
 have z:=Ext.refl h
 have bR:∀ (h:Heap) (K:aF),aC (some v) h K=K v h:=λ_ _=>rfl
 refine Ok.aw 7 (bq Kf) ?_
 simp only [aa,seval,Lp,q0.lay,q1.lay,↓fA,eV,eI,↓zCK,zrk,eJ,dX,bR]
 refine zlB d c.head c.body v _ _ _ _ _ _ _ _ (cG.lay _ _) bf (h0.lay _ _) (h1.lay _ _) hs (hl.lay _ _) gV _ (λh' x=>?_)
 (replace z:=z.an x;rw [ao h'])
 simp only [aa,seval,Lp]
 exact hk _ z.aA
theorem zw2 (c:cB) (v:ab) (B:Nat) (h:Heap) (hl:Sl aM.atom h v c.body) (gV:c.body.length<=200) (q1:Holds h B (.row (c.head.cells++[v]) 67 false)) (K:aF) (hk:∀ h',Ext h h'->K (.int .i64 (HG c)) h'):Ok prog aD ov 123 [.pointer (some ⟨B,0,none⟩)] h K:=by
 rw [ao h]
 have z:=Ext.refl h
 have oc:∀ (h:Heap) (K:aF),aC (some (.agg (c.head.cells++[v]).toArray)) h K=K (.agg ⟨c.head.cells++[v]⟩) h:=λ_ _=>rfl
 refine Ok.aw 3 (bq Kh) ?_
 simp only [aa,seval,Lq,q1.lay,↓zCL,oc]
 refine zul c v _ (hl.lay _ _) gV _ (λh' x=>?_)
 (replace z:=z.an x;rw [ao h'])
 simp only [aa,seval,Lq]
 exact hk _ z.aA
theorem zw3 (d:aq) (g:eZ) (v:ab) (p0 p1 p2 p5 p6:ab) (q b:Int) (A B:Nat) (h:Heap) (cG:bd 1 h) (bf:(du p0 p1 p2 p5 p6 q b).all Am.one=true) (h0:Sl aM.str h p0 d.ah) (h1:Sl aM.pred h p1 d.bZ) (hs:d.ah.length<=1000) (hl:Sl aM.atom h v g.body) (gV:g.body.length<=1000) (q0:Holds h A (.row (du p0 p1 p2 p5 p6 q b) 28 false)) (q1:Holds h B (.row (.string g.to::(g.head.cells++[v])) 70 false)) (K:aF) (hk:∀ h',Ext h h'->K (.int .i64 (Az d g.head g.body)) h'):Ok prog aD ov 125 [.pointer (some ⟨A,0,none⟩),.pointer (some ⟨B,0,none⟩)] h K:=by
 rw [ao h]
 have z:=Ext.refl h
 have bR:∀ (h:Heap) (K:aF),aC (some v) h K=K v h:=λ_ _=>rfl
 refine Ok.aw 7 (bq Kj) ?_
 simp only [aa,seval,Lr,q0.lay,q1.lay,↓fA,eV,eI,↓WL,zrk,eJ,dX,bR]
 refine zlB d g.head g.body v _ _ _ _ _ _ _ _ (cG.lay _ _) bf (h0.lay _ _) (h1.lay _ _) hs (hl.lay _ _) gV _ (λh' x=>?_)
 (replace z:=z.an x;rw [ao h'])
 simp only [aa,seval,Lr]
 exact hk _ z.aA
theorem zuC (d:aq):Rj d=if ji (λ_ c=>Un d c) [] d.rules=0 then ji (λ_ g=>zwf d g) [] d.bK else ji (λ_ c=>Un d c) [] d.rules:=by
 unfold Rj
 rw [SY,SY,ztK]
 split
 .split
  .rename_i h;exact h.symm
  .rfl
 .rfl
theorem zw4 (d:aq) (p0 p1 p2 p5 p6:ab) (q b:Int) (h:Heap) (cG:bd 1 h) (bf:(du p0 p1 p2 p5 p6 q b).all Am.one=true) (h0:Sl aM.str h p0 d.ah) (h1:Sl aM.pred h p1 d.bZ) (hs:d.ah.length<=1000) (h5:Sl aM.clause h p5 d.rules) (yR:d.rules.length<=1000) (hb5:∀ r∈d.rules,r.body.length<=200) (h6:Sl aM.qW h p6 d.bK) (hs6:d.bK.length<=1000) (Xj:∀ g∈d.bK,g.body.length<=200) (K:aF) (hk:∀ h',Ext h h'->K (.int .i64 (Rj d)) h'):Ok prog aD ov 73 [fI p0 p1 p2 p5 p6 q b] h K:=by
 rw [ao h]
 have z:=Ext.refl h
 have kU:∀ (h:Heap) (K:aF),aC (some p5) h K=K p5 h:=λ_ _=>rfl
 have lY:∀ (h:Heap) (K:aF),aC (some p6) h K=K p6 h:=λ_ _=>rfl
 have gK:∀ (s:au) (h:Heap) (K:aF),aC (some (.string s)) h K=K (.string s) h:=λ_ _ _=>rfl
 have nY:=λ(hh:Heap)=>h5.bo my hh
 have mW:=λ(hh:Heap)=>h6.bo nu hh
 rw [zuC] at hk
 obtain ⟨F,hF⟩:∃ F:List cB->cB->Int,F=λ_ c=>Un d c:=⟨_,rfl⟩
 obtain ⟨E,hE⟩:∃ E:List eZ->eZ->Int,E=λ_ g=>zwf d g:=⟨_,rfl⟩
 rw [<- hF,<- hE] at hk
 refine Ok.aw 50 (bq N73) ?_
 simp only [aa,seval,ml,gZ,gY,kU,nY]
 refine na (λh' x hq=>?_)
 have q0:=hq 0 _ rfl
 clear hq
 (replace z:=z.an x;rw [ao h'])
 obtain ⟨A0,el⟩:∃ A0,A0=h.size+0:=⟨_,rfl⟩
 rw [<- el] at q0
 rw [<- el]
 obtain ⟨I1,aU⟩:∃ I:Nat->Env->Heap->Prop,I=(λn e h'=>∃ (i:Nat) (h1:Heap),h'=h1.lay [] h1.low/\Ext h h1/\(n=d.rules.length - i/\i<=d.rules.length/\Holds h1 A0 (.row (du p0 p1 p2 p5 p6 q b) 28 false)/\ji F [] d.rules=ji F (d.rules.take i) (d.rules.drop i))/\∃ J:Nat->ab,e=(J 0::.pointer (some ⟨A0,0,none⟩)::jr J 2 8 (p5::.int .i64 d.rules.length::.int .i64 i::jr J 13 38 ([])))):=⟨_,rfl⟩
 refine dA I1 _ (by rw [aU];exact ⟨0,_,rfl,z,⟨rfl,by omega,q0,rfl⟩,bl⟩) ?_
 intro n e h' aO
 rw [aU] at aO
 obtain ⟨i,bC,rfl,z,hinv,J,rfl⟩:=aO
 clear q0
 obtain ⟨rfl,hi,q0,ky⟩:=hinv
 have hw:=ei i (by omega)
 simp only [aa,seval,ml]
 refine bn (λaT=>?_) (λaT=>?_)
 .obtain ⟨r,hr,cw⟩:=eW (l:=d.rules) (i:=i) (by omega)
  rw [ky,uB cw] at hk
  have qz:F (d.rules.take i) r=jN [Az d r.head r.body,HG r]:=by rw [hF];rfl
  have hbr:=hb5 r (ic cw)
  simp only [aa,seval,ml]
  refine Q5 (h5.mono z.inc) my rz (by omega) hr (λp v hv hp=>?_)
  obtain ⟨av,nv,cv,rfl⟩:=Jm hv
  repeat' (first|simp only [aa,seval,ml]|with_reducible refine ldc hp Lh rz ?_)
  clear hp
  simp only [aa,seval,ml,sg,sC,oV,zCS,Oc,Od]
  have yc:∀ (bs:List ba) (w:Nat) (i:Nat) (b:ba),bs[i]? = some b->Holds (bC.lay bs w) (bC.size+i) b:=λbs w i b hb=>⟨by rw [bc];have:=(dP.1 hb).1;omega,by rw [iB];exact hb⟩
  refine Au [.func (.func 121) ⟨[]⟩ ⟨[.pointer (some ⟨A0,0,none⟩),.pointer (some ⟨bC.size+0,0,none⟩)]⟩,.func (.func 123) ⟨[]⟩ ⟨[.pointer (some ⟨bC.size+0,0,none⟩)]⟩] [Az d r.head r.body,HG r] _ _ (AG (i:=1) rfl rfl rfl (by simp)) (by simp) rfl (λi fv e g1 g2=>?_) _ (λh' x=>?_)
  .match i,g1,g2 with
   |0,g1,g2 =>
    cases g1;cases g2
    exact ⟨⟨_,_,_,rfl⟩,λhc K2 y gz=>by
     rw [vV]
     exact zw1 d r _ _ _ _ _ _ _ _ A0 _ hc (Holds.di ((cG.ext z).lay _ _) y) bf (((h0.mono z.inc).lay _ _).mono y.all) (((h1.mono z.inc).lay _ _).mono y.all) hs ((hv.lay _ _).mono y.all) (by omega) (Holds.di (q0.on _ _) y) (Holds.di (yc _ _ 0 _ rfl) y) K2 gz⟩
   |1,g1,g2 =>
    cases g1;cases g2
    exact ⟨⟨_,_,_,rfl⟩,λhc K2 y gz=>by
     rw [vV]
     exact zw2 r _ _ hc ((hv.lay _ _).mono y.all) hbr (Holds.di (yc _ _ 0 _ rfl) y) K2 gz⟩
  (replace z:=z.an x;replace q0:=q0.over x;rw [ao h'])
  rw [<- qz]
  clear yc
  simp only [aa,seval,ml]
  refine gg (λaQ=>?_) (λheq=>?_)
  .rw [az aQ,az aQ] at hk
   simp only [aa,seval,ml]
   exact hk _ z.aA
  rw [aE heq] at hk
  simp only [aa,seval,ml]
  rw [hw]
  (rw [aU];with_reducible refine cy (m:=_) ?_ ⟨i+1,_,rfl,z,⟨rfl,by omega,q0,by rw [ky,uB cw,aE heq]⟩,bl⟩;omega)
 rw [ky,Hq (by omega),aE rfl] at hk
 clear ky hw hi aT
 simp only [aa,seval,ml,q0.lay,iw,lY,mW]
 obtain ⟨I2,fM⟩:∃ I:Nat->Env->Heap->Prop,I=(λn e h'=>∃ (i:Nat) (h1:Heap),h'=h1.lay [] h1.low/\Ext h h1/\(n=d.bK.length - i/\i<=d.bK.length/\Holds h1 A0 (.row (du p0 p1 p2 p5 p6 q b) 28 false)/\ji E [] d.bK=ji E (d.bK.take i) (d.bK.drop i))/\∃ J:Nat->ab,e=(J 0::.pointer (some ⟨A0,0,none⟩)::jr J 2 23 (p6::.int .i64 d.bK.length::.int .i64 i::jr J 28 23 ([])))):=⟨_,rfl⟩
 refine dA I2 _ (by rw [fM];exact ⟨0,_,rfl,z,⟨rfl,by omega,q0,rfl⟩,bl⟩) ?_
 intro n e h' aO
 rw [fM] at aO
 obtain ⟨i,bC,rfl,z,hinv,J,rfl⟩:=aO
 clear q0
 obtain ⟨rfl,hi,q0,ky⟩:=hinv
 have hw:=ei i (by omega)
 simp only [aa,seval,ml]
 refine bn (λaT=>?_) (λaT=>?_)
 .obtain ⟨r,hr,cw⟩:=eW (l:=d.bK) (i:=i) (by omega)
  rw [ky,uB cw] at hk
  have qz:E (d.bK.take i) r=jN [bm (!cp d.ah r.to) 6,bm (decide (r.to=r.head.says)) 11,Az d r.head r.body]:=by rw [hE];rfl
  have hbr:=Xj r (ic cw)
  simp only [aa,seval,ml]
  refine Ud (h6.mono z.inc) nu qk (by omega) hr (λp v hv hp=>?_)
  obtain ⟨av,nv,cv,rfl⟩:=Jm hv
  repeat' (first|simp only [aa,seval,ml]|with_reducible refine ldG hp EU qk ?_)
  clear hp
  simp only [aa,seval,ml,sg,nU,Am.one,sC,oV,zCQ,Oc,Od]
  refine na (λh' x hq=>?_)
  have e0:=hq 0 _ rfl
  clear hq
  (replace z:=z.an x;replace q0:=q0.over x;replace hv:=hv.over x;rw [ao h'])
  obtain ⟨E0,oD⟩:∃ E0,E0=bC.size+0:=⟨_,rfl⟩
  rw [<- oD] at e0
  rw [<- oD]
  with_reducible first|refine dL (by simp only [ml]) z.aA ?_
  simp only [aa,seval,ml,q0.lay,e0.lay,gK,↓fA,eV,eI]
  refine PQ d.ah r.to _ _ _ _ _ _ _ _ ((h0.mono z.inc).lay _ _) hs _ (λh' x=>?_)
  (((with_reducible refine cU ?_ ?_ ?_);(· exact (by (simp only [ck]);have:=z.size;omega));(· exact x));replace z:=z.an x;replace q0:=q0.over x;replace e0:=e0.over x;replace hv:=hv.over x;rw [ao h'])
  simp only [aa,seval,ml]
  (with_reducible apply bX);(· rfl)
  simp only [aa,seval,ml]
  refine oh _ _ _ _ (λh' f1 x r1=>?_)
  (((with_reducible refine cU ?_ ?_ ?_);(· exact (by (simp only [ck]);have:=z.size;omega));(· exact x));replace z:=z.an x;replace q0:=q0.over x;replace e0:=e0.over x;replace hv:=hv.over x;rw [ao h'])
  simp only [aa,seval,ml,e0.lay,zCJ,gK]
  rw [As]
  simp only [aa,seval,ml]
  refine oh _ _ _ _ (λh' f2 x r2=>?_)
  (((with_reducible refine cU ?_ ?_ ?_);(· exact (by (simp only [ck]);have:=z.size;omega));(· exact x));replace z:=z.an x;replace q0:=q0.over x;replace e0:=e0.over x;replace hv:=hv.over x;replace r1:=r1.over x;rw [ao h'])
  have r3:fp h' (.func (.func 125) ⟨[]⟩ ⟨[.pointer (some ⟨A0,0,none⟩),.pointer (some ⟨E0,0,none⟩)]⟩) (Az d r.head r.body):=⟨⟨_,_,_,rfl⟩,λhc K2 y gz=>by
   rw [vV]
   exact zw3 d r _ _ _ _ _ _ _ _ A0 E0 hc (Holds.di (cG.ext z) y) bf ((h0.mono z.inc).mono y.all) ((h1.mono z.inc).mono y.all) hs (hv.mono y.all) (by omega) (Holds.di q0 y) (Holds.di e0 y) K2 gz⟩
  obtain ⟨k1,u1,v1,rfl⟩:=r1.1
  obtain ⟨k2,u2,v2,rfl⟩:=r2.1
  simp only [aa,seval,ml]
  refine w8 (by have:=z.size;omega) (by omega) ?_
  simp only [aa,seval,ml]
  refine Au [.func k1 u1 v1,.func k2 u2 v2,.func (.func 125) ⟨[]⟩ ⟨[.pointer (some ⟨A0,0,none⟩),.pointer (some ⟨E0,0,none⟩)]⟩] [bm (!cp d.ah r.to) 6,bm (decide (r.to=r.head.says)) 11,Az d r.head r.body] _ _ (AG (i:=0) rfl rfl rfl (by simp)) (by simp) rfl (λi fv e g1 g2=>?_) _ (λh' x=>?_)
  .match i,g1,g2 with
   |0,g1,g2=>cases g1;cases g2;exact r1.lay _ _
   |1,g1,g2=>cases g1;cases g2;exact r2.lay _ _
   |2,g1,g2=>cases g1;cases g2;exact r3.lay _ _
  (((with_reducible refine cU ?_ ?_ ?_);(· exact (by (simp only [ck]);have:=z.size;omega));(· exact x));replace z:=z.an x;replace q0:=q0.over x;replace e0:=e0.over x;replace hv:=hv.over x;replace r1:=r1.over x;replace r2:=r2.over x;rw [ao h'])
  rw [<- qz]
  clear r1 r2 r3
  simp only [aa,seval,ml]
  ((with_reducible refine ⟨z.cn.lay _ _,?_⟩);(intro _ h' zz x _);(simp only [bM,bu] at x);replace q0:=q0.over x;(replace z:=zz);(clear zz);rw [ao h'])
  simp only [aa,seval,ml]
  refine gg (λaQ=>?_) (λheq=>?_)
  .rw [az aQ] at hk
   simp only [aa,seval,ml]
   exact hk _ z.aA
  rw [aE heq] at hk
  simp only [aa,seval,ml]
  rw [hw]
  (rw [fM];with_reducible refine cy (m:=_) ?_ ⟨i+1,_,rfl,z,⟨rfl,by omega,q0,by rw [ky,uB cw,aE heq]⟩,bl⟩;omega)
 .rw [ky,Hq (by omega)] at hk
  simp only [aa,seval,ml]
  exact hk _ z.aA
structure AX (d:aq):Prop where
 p:d.ah.length<=1000
 c:d.aR.length<=1000
 r:d.rules.length<=1000
 rb:∀ r∈d.rules,r.body.length<=200
 g:d.bK.length<=1000
 gb:∀ g∈d.bK,g.body.length<=200
theorem zwE (d:aq) (p0 p1 p2 p5 p6:ab) (q b:Int) (h:Heap) (cG:bd 1 h) (bf:(du p0 p1 p2 p5 p6 q b).all Am.one=true) (hd:dR h p0 p1 p2 p5 p6 d) (hq:d.i6=q) (hb:d.fE=b) (hn:AX d) (K:aF) (hk:∀ h',Ext h h'->K (.int .i64 (zy d)) h'):Ok prog aD ov 44 [fI p0 p1 p2 p5 p6 q b] h K:=by
 rw [ao h]
 have z:=Ext.refl h
 obtain ⟨es,pW⟩:∃ es,es=[HU d.ah,Rf d.bZ,HB d.ah d.aR,Hx d,Rj d]:=⟨_,rfl⟩
 obtain ⟨rV,Sa⟩:∃ rV:List ab,rV=[.func (.func 69) ⟨[]⟩ ⟨[]⟩,.func (.func 70) ⟨[]⟩ ⟨[]⟩,.func (.func 71) ⟨[]⟩ ⟨[]⟩,.func (.func 72) ⟨[]⟩ ⟨[]⟩,.func (.func 73) ⟨[]⟩ ⟨[]⟩]:=⟨_,rfl⟩
 have Dh:zy d=jN es:=by rw [pW];rfl
 rw [Dh] at hk
 have ey:∀ (i:Nat) fv e,rV[i]? = some fv->es[i]? = some e->∀ hc (K:aF),Ext h hc->(∀ h',Ext hc h'->K (.int .i64 e) h')->oU prog aD ov [fI p0 p1 p2 p5 p6 q b] hc K fv:=by
  intro i fv e h1 h2 hc K2 y gz
  rw [Sa] at h1
  rw [pW] at h2
  have jv:=hd.mono y.inc
  match i,h1,h2 with
  |0,h1,h2=>cases h1;cases h2;rw [r9];exact zwY d.ah _ _ _ _ _ _ _ hc (cG.ext y) jv.s0 K2 gz
  |1,h1,h2=>cases h1;cases h2;rw [r9];exact zwV d.bZ _ _ _ _ _ _ _ hc (cG.ext y) jv.s1 K2 gz
  |2,h1,h2=>cases h1;cases h2;rw [r9];exact zt8 d _ _ _ _ _ _ _ hc bf jv.s0 jv.s2 hn.p hn.c K2 gz
  |3,h1,h2=>cases h1;cases h2;rw [r9];exact zq9 d _ _ _ _ _ _ _ hc hq hb jv.s5 jv.s6 hn.r hn.g K2 gz
  |4,h1,h2=>cases h1;cases h2;rw [r9];exact zw4 d _ _ _ _ _ _ _ hc (cG.ext y) bf jv.s0 jv.s1 hn.p jv.s5 hn.r hn.rb jv.s6 hn.g hn.gb K2 gz
 have ud:rV.length=5:=by rw [Sa];rfl
 have wK:es.length=5:=by rw [pW];rfl
 refine Ok.aw 20 (bq N44) ?_
 simp only [aa,seval,Bh,gZ]
 refine na (λh' x hq=>?_)
 have q0:=hq 0 _ rfl
 have q1:=hq 1 _ rfl
 clear hq
 (replace z:=z.an x;rw [ao h'])
 obtain ⟨A0,el⟩:∃ A0,A0=h.size+0:=⟨_,rfl⟩
 rw [<- el] at q0
 rw [<- el]
 obtain ⟨A1,oC⟩:∃ A1,A1=h.size+1:=⟨_,rfl⟩
 rw [<- oC] at q1
 rw [<- oC]
 have sf:Sl aM.L5 h' (.slice (some ⟨A1,0,none⟩) 5 5) rV:=by
  refine .inr ⟨A1,0,5,_,_,_,by rw [ud],by rw [ud];unfold maxLen;omega,.inl ⟨by unfold G;omega,by omega⟩,q1.lt,q1.get,λj x hx=>⟨[x],?_,rfl,?_⟩⟩
  .rw [Sa] at hx
   match j,hx with
   |0,hx=>cases hx;rfl
   |1,hx=>cases hx;rfl
   |2,hx=>cases hx;rfl
   |3,hx=>cases hx;rfl
   |4,hx=>cases hx;rfl
  .rw [Sa] at hx
   match j,hx with
   |0,hx=>cases hx;rfl
   |1,hx=>cases hx;rfl
   |2,hx=>cases hx;rfl
   |3,hx=>cases hx;rfl
   |4,hx=>cases hx;rfl
 clear q1
 obtain ⟨sv,DH⟩:∃ sv,sv=Value.slice (some ⟨A1,0,none⟩) 5 5:=⟨_,rfl⟩
 rw [<- DH] at sf ⊢
 obtain ⟨I1,aU⟩:∃ I:Nat->Env->Heap->Prop,I=(λn e h'=>∃ (i:Nat) (h1:Heap),h'=h1.lay [] h1.low/\Ext h h1/\(n=5 - i/\i<=5/\Holds h1 A0 (.row (du p0 p1 p2 p5 p6 q b) 28 false)/\Sl aM.L5 h1 sv rV/\(∀ x∈es.take i,x=0))/\∃ J:Nat->ab,e=(J 0::.pointer (some ⟨A0,0,none⟩)::jr J 2 6 (sv::.int .i64 5::.int .i64 i::jr J 11 10 ([])))):=⟨_,rfl⟩
 refine dA I1 _ (by rw [aU];exact ⟨0,_,rfl,z,⟨rfl,by omega,q0,sf,by simp⟩,bl⟩) ?_
 intro n e h' aO
 rw [aU] at aO
 obtain ⟨i,bC,rfl,z,hinv,J,rfl⟩:=aO
 clear q0 sf
 obtain ⟨rfl,hi,q0,sf,aH⟩:=hinv
 have hw:=ei i (by omega)
 simp only [aa,seval,Bh]
 refine bn (λaT=>?_) (λaT=>?_)
 rotate_left
 .rw [gE (by omega)] at aH
  rw [bY.2 aH] at hk
  simp only [aa,seval,Bh]
  exact hk _ z.aA
 obtain ⟨fv,hf,Xy⟩:=eW (l:=rV) (i:=i) (by omega)
 obtain ⟨e,he,ub⟩:=eW (l:=es) (i:=i) (by omega)
 simp only [aa,seval,Bh]
 repeat' ((first|with_reducible refine zwk sf Uk zE2 (by omega) hf (λp hp=>?_)|with_reducible refine gj hp zCa ?_) <;> simp only [aa,seval,Bh])
 simp only [aa,seval,Bh,q0.lay,↓fA,eV,eI]
 refine ey i fv e Xy ub _ _ z.aA (λh' x=>?_)
 (replace z:=z.an x;replace q0:=q0.over x;replace sf:=sf.over x;rw [ao h'])
 simp only [aa,seval,Bh]
 refine gg (λaQ=>?_) (λheq=>?_)
 .rw [zoD aH ub aQ] at hk
  simp only [aa,seval,Bh]
  exact hk _ z.aA
 .simp only [aa,seval,Bh]
  rw [hw]
  (rw [aU];with_reducible refine cy (m:=_) ?_ ⟨i+1,_,rfl,z,⟨rfl,by omega,q0,sf,qH (i:=i) (P:=λx:Int=>x=0) ub aH heq⟩,bl⟩;omega)
end Go.Proofs.YtiapegieocgmfaaGreatDoor
