/- The code of some functions, node by node, for simp. Written by a program (mkcode.py). No condition. -/
import Derived.Test.YtmamldleclamjaaGreatDoorZQ0
set_option linter.unusedSimpArgs false
set_option linter.unusedVariables false
set_option maxRecDepth 100000
set_option maxHeartbeats 0
noncomputable section
namespace Go.Proofs.YtmamldleclamjaaGreatDoor
open Go.Am Tryz
variable {l:List au}
def N49:=bB f49
def x49:=PLift.up (by have c:=bD N49 f49;simp only [aL,f49,seval] at c;exact nd c <| nd @ZG <| nd @DX <| nd @Hq <| nd @kx <| nd @ni <| nd @gH <| nd @ky <| @VJ)
theorem pB:type_of% x49.down:=x49.down
def N50:=bB f50
def x50:=PLift.up (by have c:=bD N50 f50;simp only [aL,f50,seval] at c;exact nd c <| nd @ZG <| nd @Em <| nd @DX <| nd @Jr <| nd @Ht <| nd @QC <| nd @yD <| nd @vB <| nd @nj <| nd @Gp <| nd @gH <| nd @yF <| @VK)
theorem ki:type_of% x50.down:=x50.down
def N84:=bB f84
def x84:=PLift.up (by have c:=bD N84 f84;simp only [aL,f84,seval] at c;exact nd c <| nd @DX <| nd @DM <| nd @TR <| nd @kx <| nd @ni <| nd @eV <| nd @gH <| nd @ky <| @Wi)
theorem mW:type_of% x84.down:=x84.down
def N51:=bB f51
def x51:=PLift.up (by have c:=bD N51 f51;simp only [aL,f51,seval] at c;exact nd c <| nd @ZG <| nd @Ut <| nd @DX <| nd @zwg <| nd @DM <| nd @Gj <| nd @Gm <| nd @eV <| nd @Gq <| nd @gH <| nd @Gt <| @VL)
theorem qK:type_of% x51.down:=x51.down
def N83:=bB f83
def x83:=PLift.up (by have c:=bD N83 f83;simp only [aL,f83,seval] at c;exact nd c <| nd @eV <| nd @Gq <| @Wh)
theorem c83:type_of% x83.down:=x83.down
def N52:=bB f52
def x52:=PLift.up (by have c:=bD N52 f52;simp only [aL,f52,seval] at c;exact nd c <| nd @QB <| nd @zAn <| nd @TP <| nd @TQ <| nd @BC <| nd @BD <| nd @nj <| nd @BE <| nd @BF <| @VM)
theorem Q8:type_of% x52.down:=x52.down
def N86:=bB f86
def x86:=PLift.up (by have c:=bD N86 f86;simp only [aL,f86,seval] at c;exact nd c <| nd @DX <| nd @k8 <| nd @gl <| @Wk)
theorem Rc:type_of% x86.down:=x86.down
def Kc:=bB f121
def Oq:=PLift.up (by have c:=bD Kc f121;simp only [aL,f121,seval] at c;exact nd c <| nd @eV <| nd @b8 <| @zEf)
theorem Lc:type_of% Oq.down:=Oq.down
def Kd:=bB f122
def Ot:=PLift.up (by have c:=bD Kd f122;simp only [aL,f122,seval] at c;exact nd c <| nd @El <| nd @iM <| nd @eV <| nd @b8 <| nd @k8 <| nd @gl <| @zEg)
theorem py:type_of% Ot.down:=Ot.down
def N88:=bB f88
def x88:=PLift.up (by have c:=bD N88 f88;simp only [aL,f88,seval] at c;exact nd c <| nd @Ur <| nd @El <| nd @Hi <| nd @Hj <| nd @iM <| nd @ni <| nd @b8 <| nd @k8 <| nd @gl <| @Wm)
theorem rK:type_of% x88.down:=x88.down
def Kg:=bB f125
def Oy:=PLift.up (by have c:=bD Kg f125;simp only [aL,f125,seval] at c;exact nd c <| nd @ni <| @zEj)
theorem Es:type_of% Oy.down:=Oy.down
def N53:=bB f53
def x53:=PLift.up (by have c:=bD N53 f53;simp only [aL,f53,seval] at c;exact nd c <| nd @Uu <| nd @K4 <| nd @DX <| nd @TP <| nd @TQ <| nd @vV <| nd @TS <| nd @QD <| nd @Gk <| nd @Gl <| nd @BC <| nd @BD <| nd @eV <| nd @Nr <| nd @Ns <| nd @gH <| nd @BE <| nd @BF <| @VN)
theorem lU:type_of% x53.down:=x53.down
def N85:=bB f85
def x85:=PLift.up (by have c:=bD N85 f85;simp only [aL,f85,seval] at c;exact nd c <| nd @Hi <| nd @Hj <| nd @eV <| nd @b8 <| nd @k8 <| @Wj)
theorem c85:type_of% x85.down:=x85.down
def N87:=bB f87
def x87:=PLift.up (by have c:=bD N87 f87;simp only [aL,f87,seval] at c;exact nd c <| nd @Nr <| @Wl)
theorem c87:type_of% x87.down:=x87.down
def N89:=bB f89
def x89:=PLift.up (by have c:=bD N89 f89;simp only [aL,f89,seval] at c;exact nd c <| nd @QD <| nd @TT <| nd @eV <| nd @b8 <| nd @k8 <| @Wn)
theorem c89:type_of% x89.down:=x89.down
def N30:=bB f30
def x30:=PLift.up (by have c:=bD N30 f30;simp only [aL,f30,seval] at c;exact nd c <| nd @UE <| nd @YT <| nd @eV <| nd @YZ <| nd @Y2 <| @Vr)
theorem AO:type_of% x30.down:=x30.down
def Kf:=bB f124
def Ox:=PLift.up (by have c:=bD Kf f124;simp only [aL,f124,seval] at c;exact nd c <| @zEi)
theorem Er:type_of% Ox.down:=Ox.down
def Kz:=bB f147
def OV:=PLift.up (by have c:=bD Kz f147;simp only [aL,f147,seval] at c;exact nd c <| nd @kx <| nd @gH <| nd @ky <| @zED)
theorem sG:type_of% OV.down:=OV.down
theorem JG:aG.desc 126=some (.map 9 127):=by kernel_rfl
theorem uQ:aG.desc 9=some .string:=by kernel_rfl
theorem zyq:aG.zero 127=some (.agg ⟨[]⟩):=by kernel_rfl
theorem zqu:qg aG 127 []=some (.agg ⟨[]⟩):=by kernel_rfl
theorem zhv {T:bO} {t kt et:TypeId} {A w:Nat} {met:List au} {a:au} {h1:Heap} {bs:List ba} {K:aI} (m:dz Value.string h1 A met) (hd:T.desc t=some (.map kt et)) (hs:T.desc kt=some .string) (hz:T.zero et=some (.agg ⟨[]⟩)) (hK:K (.tuple #[.agg ⟨[]⟩,.bool (bh met a)]) (h1.lay bs w)):aH (B0 T t (.map (some A)) (.string a) true (h1.lay bs w)) (h1.lay bs w) K :=
 zt2 (kv:=Value.string) m (λ_=>rfl) hd (Jq hs) hz (λhm=>by rw [cC.2 hm] at hK;exact hK) (λhm=>by rw [Bool.eq_false_iff.2 (mt cC.1 hm)] at hK;exact hK)
theorem zno {T:bO} {t kt et:TypeId} {A w:Nat} {met:List au} {a:au} {h1:Heap} {bs:List ba} {K:aI} (m:dz Value.string h1 A met) (hd:T.desc t=some (.map kt et)) (hs:T.desc kt=some .string) (hK:∀ h',dz Value.string h' A (met++[a])->eX A (h1.lay bs w) h'->K undef h'):iq (rz T t (.map (some A)) (.string a) (.agg ⟨[]⟩) (h1.lay bs w)) K :=
 zz5 (kv:=Value.string) m (λ_=>rfl) (λx=>zgm x) hd (Jq hs) (λh' m2 c=>hK h' (m2.same (λb=>by rw [cJ,iA,fH];exact Or.comm)) c)
theorem zry (h:Heap) (l:List ba) (w i o:Nat) (v:ah) (hi:i < l.length):iO aG 127 (.pointer (some ⟨h.size+i,o,none⟩)) v (h.lay l w)=if v.cells.size=0 then uC l[i]? i o v.cells.toList h l w else none:=y6 (by kernel_rfl) h l w i o v hi
theorem zzq (s:au) (h:Heap) (cR:bc 1 h) (K:aI) (hk:∀ h',Ext h h'->K (.bool (oI s)) h'):Ok prog aG ov 80 [.string s] h K :=
 zm9 s h cR K (λg h' x=>by rw [bZ.2 g] at hk;exact hk h' x) (λg h' x=>by rw [Ta g] at hk;exact hk h' x)
theorem zzp (s:au) (h:Heap) (cR:bc 1 h) (K:aI) (hk:∀ h',Ext h h'->K (.bool (oI s)) h'):Ok prog aG ov 81 [.string s] h K :=
 zsF s h cR K (λg h' x=>by rw [bZ.2 g] at hk;exact hk h' x) (λg h' x=>by rw [Ta g] at hk;exact hk h' x)
theorem zkf (h:l.length < 1\/16 < l.length):rB l=4:=aB h
theorem zxf (l:List au) (p0 p1 p2 p5 p6:ah) (q b:Int) (h:Heap) (cR:bc 1 h) (hl:Sl aK.str h p0 l) (K:aI) (hk:∀ h',Ext h h'->K (.int .i64 (rB l)) h'):Ok prog aG ov 49 [hU p0 p1 p2 p5 p6 q b] h K:=by
 rw [ao h]
 have z:=Ext.refl h
 have hle:=hl.le
 have el:∀ (h:Heap) (K:aI),aH (some p0) h K=K p0 h:=λ_ _=>rfl
 have cU:=λ(hh:Heap)=>hl.bn cG hh
 refine Ok.aw 47 (bu N49) ?_
 simp only [aa,seval,pB,kG,lO,el,cU]
 refine bq (λh1=>?_) (λh1=>?_)
 .rw [zkf (.inl (by omega))] at hk
  simp only [aa,seval,pB]
  exact hk _ z.aC
 simp only [aa,seval,pB]
 refine bq (λh2=>?_) (λh2=>?_)
 .rw [zkf (.inr (by omega))] at hk
  simp only [aa,seval,pB]
  exact hk _ z.aC
 have Bo:rB l=fc (λpre w=>iv [bj (!oI w) 3,bj (bh pre w) 5]) [] l:=aA (by omega)
 rw [Bo] at hk
 obtain ⟨F,hF⟩:∃ F:List au->au->Int,F=λpre w=>iv [bj (!oI w) 3,bj (bh pre w) 5]:=⟨_,rfl⟩
 rw [<- hF] at hk
 simp only [aa,seval,pB,G4,lO,el,cU]
 refine lZ (λh' x hq=>?_)
 have q0:=hq 0 _ rfl
 have q1:=hq 1 _ rfl
 clear hq
 (replace z:=z.an x;rw [ao h'])
 obtain ⟨M,hM⟩:∃ M,M=h.size+1:=⟨_,rfl⟩
 rw [<- hM] at q1
 rw [<- hM]
 clear q0
 obtain ⟨I1,aX⟩:∃ I:Nat->Env->Heap->Prop,I=(λn e h'=>∃ (i:Nat) (h1:Heap),h'=h1.lay [] h1.low/\Ext h h1/\(n=l.length - i/\i<=l.length/\dz Value.string h1 M (l.take i)/\fc F [] l=fc F (l.take i) (l.drop i))/\∃ J:Nat->ah,e=(jr J 0 4 (.map (some M)::jr J 5 16 (p0::.int .i64 l.length::.int .i64 i::jr J 24 24 ([]))))):=⟨_,rfl⟩
 refine du I1 _ (by rw [aX];exact ⟨0,_,rfl,z,⟨rfl,by omega,dz.new q1,rfl⟩,bm⟩) ?_
 intro n e h' aP
 rw [aX] at aP
 obtain ⟨i,bx,rfl,z,hinv,J,rfl⟩:=aP
 clear q1
 obtain ⟨rfl,hi,q1,dQ⟩:=hinv
 have hw:=ei i (by omega)
 simp only [aa,seval,pB]
 refine bq (λaW=>?_) (λaW=>?_)
 rotate_left
 .rw [dQ,Ds (by omega)] at hk
  simp only [aa,seval,pB]
  exact hk _ z.aC
 obtain ⟨r,hr,bT⟩:=fo (l:=l) (i:=i) (by omega)
 rw [dQ,rW bT] at hk
 have qn:F (l.take i) r=iv [bj (!oI r) 3,bj (bh (l.take i) r) 5]:=by rw [hF]
 simp only [aa,seval,pB]
 repeat' ((first|with_reducible refine qz (hl.mono z.inc) cG nK (by omega) hr (λp hp=>?_)|with_reducible refine iY hp kJ ?_) <;> simp only [aa,seval,pB])
 simp only [dx,seval,Aa]
 refine zhv q1 JG uQ zyq ?_
 simp only [aa,seval,pB]
 rw [zT]
 simp only [aa,seval,pB,r5,po,tG,nR,zry]
 refine zzq r _ ((cR.ext z).lay _ _) _ (λh' x=>?_)
 (replace z:=z.an x;replace q1:=q1.over x;rw [ao h'])
 clear hp
 simp only [aa,seval,pB]
 (with_reducible apply ct);(· rfl)
 simp only [aa,seval,pB]
 refine nO _ _ _ _ (λh' f1 x r1=>?_)
 (replace z:=z.an x;replace q1:=q1.over x;rw [ao h'])
 simp only [aa,seval,pB]
 refine nO _ _ _ _ (λh' f2 x r2=>?_)
 (replace z:=z.an x;replace q1:=q1.over x;replace r1:=r1.over x;rw [ao h'])
 obtain ⟨g1,u1,v1,rfl⟩:=r1.1
 obtain ⟨g2,u2,v2,rfl⟩:=r2.1
 simp only [aa,seval,pB]
 refine zU [.func g1 u1 v1,.func g2 u2 v2] [bj (!oI r) 3,bj (bh (l.take i) r) 5] _ _ (Ag (i:=0) rfl rfl rfl (by simp)) (by simp) rfl (λi fv e h1 h2=>?_) _ (λh' x=>?_)
 .match i,h1,h2 with
  |0,h1,h2=>cases h1;cases h2;exact r1.lay _ _
  |1,h1,h2=>cases h1;cases h2;exact r2.lay _ _
 (replace z:=z.an x;replace q1:=q1.over x;replace r1:=r1.over x;replace r2:=r2.over x;rw [ao h'])
 rw [<- qn]
 clear r1 r2
 simp only [aa,seval,pB]
 refine iS (λaS=>?_) (λheq=>?_)
 .rw [aA aS] at hk
  simp only [aa,seval,pB]
  exact hk _ z.aC
 rw [aB heq] at hk
 have LZ:h.size<=M:=by omega
 simp only [aa,seval,pB,zqu,Pz]
 refine zno q1 JG uQ (λh3 q3 pD=>?_)
 replace z:=z.cw pD LZ (by omega)
 rw [ao h3]
 simp only [aa,seval,pB]
 rw [hw]
 have lW:l.take (i+1)=l.take i++[r]:=by rw [nS,bT];rfl
 rw [<- lW] at q3
 (rw [aX];with_reducible refine cy (m:=_) ?_ ⟨i+1,_,rfl,z,⟨rfl,by omega,q3,by rw [dQ,rW bT,aB heq]⟩,bm⟩;omega)
theorem zuE {l:List bP} (h:32 < l.length):uA l=4:=aB h
theorem zxe (l:List bP) (p0 p1 p2 p5 p6:ah) (q b:Int) (h:Heap) (cR:bc 1 h) (hl:Sl aK.pred h p1 l) (K:aI) (hk:∀ h',Ext h h'->K (.int .i64 (uA l)) h'):Ok prog aG ov 50 [hU p0 p1 p2 p5 p6 q b] h K:=by
 rw [ao h]
 have z:=Ext.refl h
 have hle:=hl.le
 have el:∀ (h:Heap) (K:aI),aH (some p1) h K=K p1 h:=λ_ _=>rfl
 have gN:∀ (s:au) (h:Heap) (K:aI),aH (some (.string s)) h K=K (.string s) h:=λ_ _ _=>rfl
 have cU:=λ(hh:Heap)=>hl.bn kj hh
 refine Ok.aw 53 (bu N50) ?_
 simp only [aa,seval,ki,kG,lP,el,cU]
 refine bq (λh2=>?_) (λh2=>?_)
 .rw [zuE (by omega)] at hk
  simp only [aa,seval,ki]
  exact hk _ z.aC
 have Bo:uA l=fc (λpre x=>iv [bj (!oI x.name) 3,bj (bh (pre.map bP.name) x.name) 5,bj (decide (x.arity < 0\/4 < x.arity)) 4]) [] l:=aA (by omega)
 rw [Bo] at hk
 obtain ⟨F,hF⟩:∃ F:List bP->bP->Int,F=λpre x=>iv [bj (!oI x.name) 3,bj (bh (pre.map bP.name) x.name) 5,bj (decide (x.arity < 0\/4 < x.arity)) 4]:=⟨_,rfl⟩
 rw [<- hF] at hk
 simp only [aa,seval,ki,G4,lP,el,cU]
 refine lZ (λh' x hq=>?_)
 have q0:=hq 0 _ rfl
 have q1:=hq 1 _ rfl
 clear hq
 (replace z:=z.an x;rw [ao h'])
 obtain ⟨M,hM⟩:∃ M,M=h.size+1:=⟨_,rfl⟩
 rw [<- hM] at q1
 rw [<- hM]
 clear q0
 obtain ⟨I1,aX⟩:∃ I:Nat->Env->Heap->Prop,I=(λn e h'=>∃ (i:Nat) (h1:Heap),h'=h1.lay [] h1.low/\Ext h h1/\(n=l.length - i/\i<=l.length/\dz Value.string h1 M ((l.take i).map bP.name)/\fc F [] l=fc F (l.take i) (l.drop i))/\∃ J:Nat->ah,e=(jr J 0 3 (.map (some M)::jr J 4 11 (p1::.int .i64 l.length::.int .i64 i::jr J 18 36 ([]))))):=⟨_,rfl⟩
 refine du I1 _ (by rw [aX];exact ⟨0,_,rfl,z,⟨rfl,by omega,dz.new q1,rfl⟩,bm⟩) ?_
 intro n e h' aP
 rw [aX] at aP
 obtain ⟨i,bx,rfl,z,hinv,J,rfl⟩:=aP
 clear q1
 obtain ⟨rfl,hi,q1,dQ⟩:=hinv
 have hw:=ei i (by omega)
 simp only [aa,seval,ki]
 refine bq (λaW=>?_) (λaW=>?_)
 rotate_left
 .rw [dQ,Ds (by omega)] at hk
  simp only [aa,seval,ki]
  exact hk _ z.aC
 obtain ⟨r,hr,bT⟩:=fo (l:=l) (i:=i) (by omega)
 rw [dQ,rW bT] at hk
 have qn:F (l.take i) r=iv [bj (!oI r.name) 3,bj (bh ((l.take i).map bP.name) r.name) 5,bj (decide (r.arity < 0\/4 < r.arity)) 4]:=by rw [hF]
 simp only [aa,seval,ki]
 repeat' ((first|with_reducible refine QH (hl.mono z.inc) kj my (by omega) hr (λp hp=>?_)|with_reducible refine Nt hp AB my ?_) <;> simp only [aa,seval,ki])
 simp only [aa,seval,ki,r5,nC,po,Am.one,tG,nR,zDv,Aa,gN]
 refine zhv q1 JG uQ zyq ?_
 simp only [aa,seval,ki]
 rw [zT]
 simp only [aa,seval,ki,r5,po,tG,nR,List.set_cons_succ,zry]
 refine lZ (λh' x hq=>?_)
 have e0:=hq 0 _ rfl
 clear hq
 (replace z:=z.an x;replace q1:=q1.over x;rw [ao h'])
 obtain ⟨E0,ob⟩:∃ E0,E0=bx.size+0:=⟨_,rfl⟩
 rw [<- ob] at e0
 rw [<- ob]
 clear hp
 with_reducible first|refine dL (by simp only [ki]) z.aC ?_
 simp only [aa,seval,ki,e0.lay,gN]
 refine zzp r.name _ ((cR.ext z).lay _ _) _ (λh' x=>?_)
 (((with_reducible refine cW ?_ ?_ ?_);(· exact (by (simp only [cV]);have:=z.size;omega));(· exact x));replace z:=z.an x;replace q1:=q1.over x;replace e0:=e0.over x;rw [ao h'])
 simp only [aa,seval,ki]
 (with_reducible apply ct);(· rfl)
 simp only [aa,seval,ki]
 refine nO _ _ _ _ (λh' f1 x r1=>?_)
 (((with_reducible refine cW ?_ ?_ ?_);(· exact (by (simp only [cV]);have:=z.size;omega));(· exact x));replace z:=z.an x;replace q1:=q1.over x;replace e0:=e0.over x;rw [ao h'])
 simp only [aa,seval,ki]
 refine nO _ _ _ _ (λh' f2 x r2=>?_)
 (((with_reducible refine cW ?_ ?_ ?_);(· exact (by (simp only [cV]);have:=z.size;omega));(· exact x));replace z:=z.an x;replace q1:=q1.over x;replace e0:=e0.over x;replace r1:=r1.over x;rw [ao h'])
 simp only [aa,seval,ki,e0.lay]
 refine bq (λc1=>?_) (λc1=>?_)
 .have jG:decide (r.arity < 0\/4 < r.arity)=true:=by simp [c1]
  rw [jG] at qn
  simp only [aa,seval,ki]
  refine nO _ _ _ _ (λh' f3 x r3=>?_)
  (((with_reducible refine cW ?_ ?_ ?_);(· exact (by (simp only [cV]);have:=z.size;omega));(· exact x));replace z:=z.an x;replace q1:=q1.over x;replace e0:=e0.over x;replace r1:=r1.over x;replace r2:=r2.over x;rw [ao h'])
  obtain ⟨g1,u1,v1,rfl⟩:=r1.1
  obtain ⟨g2,u2,v2,rfl⟩:=r2.1
  obtain ⟨g3,u3,v3,rfl⟩:=r3.1
  simp only [aa,seval,ki]
  refine vN (by have:=z.size;omega) (by omega) ?_
  simp only [aa,seval,ki]
  refine zU [.func g1 u1 v1,.func g2 u2 v2,.func g3 u3 v3] [bj (!oI r.name) 3,bj (bh ((l.take i).map bP.name) r.name) 5,bj true 4] _ _ (Ag (i:=0) rfl rfl rfl (by simp)) (by simp) rfl (λi fv e h1 h2=>?_) _ (λh' x=>?_)
  .match i,h1,h2 with
   |0,h1,h2=>cases h1;cases h2;exact r1.lay _ _
   |1,h1,h2=>cases h1;cases h2;exact r2.lay _ _
   |2,h1,h2=>cases h1;cases h2;exact r3.lay _ _
  (((with_reducible refine cW ?_ ?_ ?_);(· exact (by (simp only [cV]);have:=z.size;omega));(· exact x));replace z:=z.an x;replace q1:=q1.over x;replace r1:=r1.over x;replace r2:=r2.over x;replace r3:=r3.over x;rw [ao h'])
  rw [<- qn]
  clear r1 r2 r3
  simp only [aa,seval,ki]
  ((with_reducible refine ⟨z.cK.lay _ _,?_⟩);(intro _ h' zz x _);(simp only [b9,bG] at x);replace q1:=q1.over x;(replace z:=zz);(clear zz);rw [ao h'])
  simp only [aa,seval,ki]
  refine iS (λaS=>?_) (λheq=>?_)
  .rw [aA aS] at hk
   simp only [aa,seval,ki]
   exact hk _ z.aC
  .rw [heq] at qn
   have:=dr.1 qn.symm 4 (by simp [bj])
   omega
 .have jG:decide (r.arity < 0\/4 < r.arity)=decide (4 < r.arity):=by simp [c1]
  rw [jG] at qn
  simp only [aa,seval,ki,e0.lay]
  repeat (rw [zT];simp only [aa,seval,ki])
  refine nO _ _ _ _ (λh' f3 x r3=>?_)
  (((with_reducible refine cW ?_ ?_ ?_);(· exact (by (simp only [cV]);have:=z.size;omega));(· exact x));replace z:=z.an x;replace q1:=q1.over x;replace e0:=e0.over x;replace r1:=r1.over x;replace r2:=r2.over x;rw [ao h'])
  obtain ⟨g1,u1,v1,rfl⟩:=r1.1
  obtain ⟨g2,u2,v2,rfl⟩:=r2.1
  obtain ⟨g3,u3,v3,rfl⟩:=r3.1
  simp only [aa,seval,ki]
  refine vN (by have:=z.size;omega) (by omega) ?_
  simp only [aa,seval,ki]
  refine zU [.func g1 u1 v1,.func g2 u2 v2,.func g3 u3 v3] [bj (!oI r.name) 3,bj (bh ((l.take i).map bP.name) r.name) 5,bj (decide (4 < r.arity)) 4] _ _ (Ag (i:=0) rfl rfl rfl (by simp)) (by simp) rfl (λi fv e h1 h2=>?_) _ (λh' x=>?_)
  .match i,h1,h2 with
   |0,h1,h2=>cases h1;cases h2;exact r1.lay _ _
   |1,h1,h2=>cases h1;cases h2;exact r2.lay _ _
   |2,h1,h2=>cases h1;cases h2;exact r3.lay _ _
  (((with_reducible refine cW ?_ ?_ ?_);(· exact (by (simp only [cV]);have:=z.size;omega));(· exact x));replace z:=z.an x;replace q1:=q1.over x;replace e0:=e0.over x;replace r1:=r1.over x;replace r2:=r2.over x;replace r3:=r3.over x;rw [ao h'])
  rw [<- qn]
  clear r1 r2 r3
  simp only [aa,seval,ki]
  ((with_reducible refine ⟨z.cK.lay _ _,?_⟩);(intro _ h' zz x _);(simp only [b9,bG] at x);replace q1:=q1.over x;replace e0:=e0.over x;(replace z:=zz);(clear zz);rw [ao h'])
  simp only [aa,seval,ki]
  refine iS (λaS=>?_) (λheq=>?_)
  .rw [aA aS] at hk
   simp only [aa,seval,ki]
   exact hk _ z.aC
  rw [aB heq] at hk
  have LZ:h.size<=M:=by omega
  simp only [aa,seval,ki,e0.lay,gN,zqu,Pz]
  refine zno q1 JG uQ (λh3 q3 pD=>?_)
  replace z:=z.cw pD LZ (by omega)
  rw [ao h3]
  simp only [aa,seval,ki]
  rw [hw]
  have lW:(l.take (i+1)).map bP.name=(l.take i).map bP.name++[r.name]:=by rw [nS,bT];simp
  rw [<- lW] at q3
  (rw [aX];with_reducible refine cy (m:=_) ?_ ⟨i+1,_,rfl,z,⟨rfl,by omega,q3,by rw [dQ,rW bT,aB heq]⟩,bm⟩;omega)
theorem IP {Z:Type} {r:aK Z} {h:Heap} {v:ah} {l:List Z} (f:Sl r h v l):∃ a n c,v=.slice a n c:=by
 rcases f with ⟨rfl,_⟩|⟨A,o,c,row,u,ro,rfl,_⟩ <;> exact ⟨_,_,_,rfl⟩
theorem zzV {h:Heap} {v:ah} (f:Sl aK.str h v l) (i:Nat) (hi:i<=l.length):∃ a n c,jL aG 22 v none (some (.int .i64 i)) none=some (.slice a n c)/\Sl aK.str h (.slice a n c) (l.take i):=by
 obtain ⟨u1,g1,g2⟩:=f.sub (a:=0) (b:=i) (by decide) cG nK (.inl ⟨rfl,rfl⟩) (.inr ⟨.i64,rfl⟩) (by omega) hi
 obtain ⟨a,n,c,rfl⟩:=IP g2
 exact ⟨a,n,c,g1,by simpa using g2⟩
theorem zpw {ps:List au} {c:bS} (h:c.reads.length < 1\/16 < c.reads.length):qy ps c=4:=aB h
theorem zxg (ps:List au) (c:bS) (v:ah) (p0 p1 p2 p5 p6:ah) (q b:Int) (h:Heap) (bt:(dW p0 p1 p2 p5 p6 q b).all Am.one=true) (h0:Sl aK.str h p0 ps) (hs:ps.length<=1000) (hv:Sl aK.str h v c.reads) (K:aI) (hk:∀ h',Ext h h'->K (.int .i64 (qy ps c)) h'):Ok prog aG ov 84 [hU p0 p1 p2 p5 p6 q b,.agg ⟨[.string c.aR,v]⟩] h K:=by
 rw [ao h]
 have z:=Ext.refl h
 have hle:=hv.le
 have el:∀ (h:Heap) (K:aI),aH (some v) h K=K v h:=λ_ _=>rfl
 have gN:∀ (s:au) (h:Heap) (K:aI),aH (some (.string s)) h K=K (.string s) h:=λ_ _ _=>rfl
 have cU:=λ(hh:Heap)=>hv.bn cG hh
 refine Ok.aw 47 (bu N84) ?_
 simp only [aa,seval,mW,kG,el,cU]
 refine bq (λh1=>?_) (λh1=>?_)
 .rw [zpw (.inl (by omega))] at hk
  simp only [aa,seval,mW]
  exact hk _ z.aC
 simp only [aa,seval,mW]
 refine bq (λh2=>?_) (λh2=>?_)
 .rw [zpw (.inr (by omega))] at hk
  simp only [aa,seval,mW]
  exact hk _ z.aC
 have Bo:qy ps c=fc (λpre w=>iv [bj (!bh ps w) 6,bj (decide (w=c.aR)) 11,bj (bh pre w) 5]) [] c.reads:=aA (by omega)
 rw [Bo] at hk
 obtain ⟨F,hF⟩:∃ F:List au->au->Int,F=λpre w=>iv [bj (!bh ps w) 6,bj (decide (w=c.aR)) 11,bj (bh pre w) 5]:=⟨_,rfl⟩
 rw [<- hF] at hk
 simp only [aa,seval,mW,el,cU]
 refine lZ (λh' x hq=>?_)
 have q0:=hq 0 _ rfl
 have q1:=hq 1 _ rfl
 clear hq
 (replace z:=z.an x;rw [ao h'])
 obtain ⟨A0,ep⟩:∃ A0,A0=h.size+0:=⟨_,rfl⟩
 rw [<- ep] at q0
 rw [<- ep]
 obtain ⟨A1,oa⟩:∃ A1,A1=h.size+1:=⟨_,rfl⟩
 rw [<- oa] at q1
 rw [<- oa]
 obtain ⟨I1,aX⟩:∃ I:Nat->Env->Heap->Prop,I=(λn e h'=>∃ (i:Nat) (h1:Heap),h'=h1.lay [] h1.low/\Ext h h1/\(n=c.reads.length - i/\i<=c.reads.length/\Holds h1 A0 (.row (dW p0 p1 p2 p5 p6 q b) 28 false)/\Holds h1 A1 (.row [.string c.aR,v] 67 false)/\fc F [] c.reads=fc F (c.reads.take i) (c.reads.drop i))/\∃ J:Nat->ah,e=(jr J 0 2 (.pointer (some ⟨A0,0,none⟩)::.pointer (some ⟨A1,0,none⟩)::jr J 4 15 (v::.int .i64 c.reads.length::.int .i64 i::jr J 22 27 ([]))))):=⟨_,rfl⟩
 refine du I1 _ (by rw [aX];exact ⟨0,_,rfl,z,⟨rfl,by omega,q0,q1,rfl⟩,bm⟩) ?_
 intro n e h' aP
 rw [aX] at aP
 obtain ⟨i,bx,rfl,z,hinv,J,rfl⟩:=aP
 clear q0 q1
 obtain ⟨rfl,hi,q0,q1,dQ⟩:=hinv
 have hw:=ei i (by omega)
 simp only [aa,seval,mW]
 refine bq (λaW=>?_) (λaW=>?_)
 rotate_left
 .rw [dQ,Ds (by omega)] at hk
  simp only [aa,seval,mW]
  exact hk _ z.aC
 obtain ⟨r,hr,bT⟩:=fo (l:=c.reads) (i:=i) (by omega)
 rw [dQ,rW bT] at hk
 have qn:F (c.reads.take i) r=iv [bj (!bh ps r) 6,bj (decide (r=c.aR)) 11,bj (bh (c.reads.take i) r) 5]:=by rw [hF]
 obtain ⟨a,m,cc,g1,g2⟩:=zzV hv i hi
 have Gb:∀ (h:Heap) (K:aI),aH (some (.slice a m cc)) h K=K (.slice a m cc) h:=λ_ _=>rfl
 simp only [aa,seval,mW]
 repeat' ((first|with_reducible refine qz (hv.mono z.inc) cG nK (by omega) hr (λp hp=>?_)|with_reducible refine iY hp kJ ?_) <;> simp only [aa,seval,mW])
 clear hp
 with_reducible first|refine dL (by simp only [mW]) z.aC ?_
 simp only [aa,seval,mW,q0.lay,↓iR,gO,fY]
 refine Pv ps r _ _ _ _ _ _ _ _ ((h0.mono z.inc).lay _ _) hs _ (λh' x=>?_)
 (((with_reducible refine cW ?_ ?_ ?_);(· exact (by (simp only [cV]);have:=z.size;omega));(· exact x));replace z:=z.an x;replace q0:=q0.over x;replace q1:=q1.over x;rw [ao h'])
 simp only [aa,seval,mW]
 (with_reducible apply ct);(· rfl)
 simp only [aa,seval,mW]
 refine nO _ _ _ _ (λh' f1 x r1=>?_)
 (((with_reducible refine cW ?_ ?_ ?_);(· exact (by (simp only [cV]);have:=z.size;omega));(· exact x));replace z:=z.an x;replace q0:=q0.over x;replace q1:=q1.over x;rw [ao h'])
 simp only [aa,seval,mW,q1.lay,gN]
 rw [zT]
 simp only [aa,seval,mW]
 refine nO _ _ _ _ (λh' f2 x r2=>?_)
 (((with_reducible refine cW ?_ ?_ ?_);(· exact (by (simp only [cV]);have:=z.size;omega));(· exact x));replace z:=z.an x;replace q0:=q0.over x;replace q1:=q1.over x;replace r1:=r1.over x;rw [ao h'])
 simp only [aa,seval,mW,q1.lay,el,g1,Gb]
 refine IG (c.reads.take i) _ r _ ((g2.mono z.inc).lay _ _) (by rw [fw];omega) _ (λh' x=>?_)
 (((with_reducible refine cW ?_ ?_ ?_);(· exact (by (simp only [cV]);have:=z.size;omega));(· exact x));replace z:=z.an x;replace q0:=q0.over x;replace q1:=q1.over x;replace r1:=r1.over x;replace r2:=r2.over x;rw [ao h'])
 simp only [aa,seval,mW]
 refine nO _ _ _ _ (λh' f3 x r3=>?_)
 (((with_reducible refine cW ?_ ?_ ?_);(· exact (by (simp only [cV]);have:=z.size;omega));(· exact x));replace z:=z.an x;replace q0:=q0.over x;replace q1:=q1.over x;replace r1:=r1.over x;replace r2:=r2.over x;rw [ao h'])
 obtain ⟨k1,u1,v1,rfl⟩:=r1.1
 obtain ⟨k2,u2,v2,rfl⟩:=r2.1
 obtain ⟨k3,u3,v3,rfl⟩:=r3.1
 simp only [aa,seval,mW]
 refine vN (by have:=z.size;omega) (by omega) ?_
 simp only [aa,seval,mW]
 refine zU [.func k1 u1 v1,.func k2 u2 v2,.func k3 u3 v3] [bj (!bh ps r) 6,bj (decide (r=c.aR)) 11,bj (bh (c.reads.take i) r) 5] _ _ (Ag (i:=0) rfl rfl rfl (by simp)) (by simp) rfl (λi fv e h1 h2=>?_) _ (λh' x=>?_)
 .match i,h1,h2 with
  |0,h1,h2=>cases h1;cases h2;exact r1.lay _ _
  |1,h1,h2=>cases h1;cases h2;exact r2.lay _ _
  |2,h1,h2=>cases h1;cases h2;exact r3.lay _ _
 (((with_reducible refine cW ?_ ?_ ?_);(· exact (by (simp only [cV]);have:=z.size;omega));(· exact x));replace z:=z.an x;replace q0:=q0.over x;replace q1:=q1.over x;replace r1:=r1.over x;replace r2:=r2.over x;replace r3:=r3.over x;rw [ao h'])
 rw [<- qn]
 clear r1 r2 r3
 simp only [aa,seval,mW]
 ((with_reducible refine ⟨z.cK.lay _ _,?_⟩);(intro _ h' zz x _);(simp only [b9,bG] at x);replace q0:=q0.over x;replace q1:=q1.over x;(replace z:=zz);(clear zz);rw [ao h'])
 simp only [aa,seval,mW]
 refine iS (λaS=>?_) (λheq=>?_)
 .rw [aA aS] at hk
  simp only [aa,seval,mW]
  exact hk _ z.aC
 rw [aB heq] at hk
 simp only [aa,seval,mW]
 rw [hw]
 (rw [aX];with_reducible refine cy (m:=_) ?_ ⟨i+1,_,rfl,z,⟨rfl,by omega,q0,q1,by rw [dQ,rW bT,aB heq]⟩,bm⟩;omega)
theorem zug (ps:List au) (c:bS) (v:ah) (p0 p1 p2 p5 p6:ah) (q b:Int) (A B:Nat) (h:Heap) (bt:(dW p0 p1 p2 p5 p6 q b).all Am.one=true) (h0:Sl aK.str h p0 ps) (hs:ps.length<=1000) (hv:Sl aK.str h v c.reads) (q0:Holds h A (.row (dW p0 p1 p2 p5 p6 q b) 28 false)) (q1:Holds h B (.row [.string c.aR,v] 67 false)) (K:aI) (hk:∀ h',Ext h h'->K (.int .i64 (qy ps c)) h'):Ok prog aG ov 83 [.pointer (some ⟨A,0,none⟩),.pointer (some ⟨B,0,none⟩)] h K:=by
 rw [ao h]
 have z:=Ext.refl h
 refine Ok.aw 4 (bu N83) ?_
 simp only [aa,seval,c83,q0.lay,q1.lay,↓iR,gO,fY]
 refine zxg ps c v _ _ _ _ _ _ _ _ bt (h0.lay _ _) hs (hv.lay _ _) _ (λh' x=>?_)
 (replace z:=z.an x;rw [ao h'])
 simp only [aa,seval,c83]
 exact hk _ z.aC
theorem zFp (h:Heap) (l:List ba) (w i o:Nat) (v:ah) (hi:i < l.length):iO aG 67 (.pointer (some ⟨h.size+i,o,none⟩)) v (h.lay l w)=if v.cells.size=2 then uC l[i]? i o v.cells.toList h l w else none:=y6 oC h l w i o v hi
theorem zuh (d:aq) (p0 p1 p2 p5 p6:ah) (q b:Int) (h:Heap) (bt:(dW p0 p1 p2 p5 p6 q b).all Am.one=true) (h0:Sl aK.str h p0 d.ab) (h2:Sl aK.clear h p2 d.bf) (hs:d.ab.length<=1000) (gG:d.bf.length<=1000) (K:aI) (hk:∀ h',Ext h h'->K (.int .i64 (yZ d.ab d.bf)) h'):Ok prog aG ov 51 [hU p0 p1 p2 p5 p6 q b] h K:=by
 rw [ao h]
 have z:=Ext.refl h
 have el:∀ (h:Heap) (K:aI),aH (some p2) h K=K p2 h:=λ_ _=>rfl
 have gN:∀ (s:au) (h:Heap) (K:aI),aH (some (.string s)) h K=K (.string s) h:=λ_ _ _=>rfl
 have cU:=λ(hh:Heap)=>h2.bn mY hh
 obtain ⟨F,hF⟩:∃ F:List bS->bS->Int,F=λpre c=>iv [bj (!bh d.ab c.aR) 6,bj (bh (pre.map bS.aR) c.aR) 5,qy d.ab c]:=⟨_,rfl⟩
 have Bo:yZ d.ab d.bf=fc F [] d.bf:=by rw [hF];rfl
 rw [Bo] at hk
 refine Ok.aw 42 (bu N51) ?_
 simp only [aa,seval,qK,G4,kG,rj,el,cU]
 refine lZ (λh' x hq=>?_)
 have q0:=hq 0 _ rfl
 have q1:=hq 1 _ rfl
 clear hq
 (replace z:=z.an x;rw [ao h'])
 obtain ⟨A0,ep⟩:∃ A0,A0=h.size+0:=⟨_,rfl⟩
 rw [<- ep] at q0
 rw [<- ep]
 obtain ⟨M,hM⟩:∃ M,M=h.size+1:=⟨_,rfl⟩
 rw [<- hM] at q1
 rw [<- hM]
 have hAM:A0≠M:=by omega
 obtain ⟨I1,aX⟩:∃ I:Nat->Env->Heap->Prop,I=(λn e h'=>∃ (i:Nat) (h1:Heap),h'=h1.lay [] h1.low/\Ext h h1/\(n=d.bf.length - i/\i<=d.bf.length/\Holds h1 A0 (.row (dW p0 p1 p2 p5 p6 q b) 28 false)/\dz Value.string h1 M ((d.bf.take i).map bS.aR)/\fc F [] d.bf=fc F (d.bf.take i) (d.bf.drop i))/\∃ J:Nat->ah,e=(J 0::.pointer (some ⟨A0,0,none⟩)::J 2::.map (some M)::jr J 4 7 (p2::.int .i64 d.bf.length::.int .i64 i::jr J 14 29 ([])))):=⟨_,rfl⟩
 refine du I1 _ (by rw [aX];exact ⟨0,_,rfl,z,⟨rfl,by omega,q0,dz.new q1,rfl⟩,bm⟩) ?_
 intro n e h' aP
 rw [aX] at aP
 obtain ⟨i,bx,rfl,z,hinv,J,rfl⟩:=aP
 clear q0 q1
 obtain ⟨rfl,hi,q0,q1,dQ⟩:=hinv
 have hw:=ei i (by omega)
 simp only [aa,seval,qK]
 refine bq (λaW=>?_) (λaW=>?_)
 rotate_left
 .rw [dQ,Ds (by omega)] at hk
  simp only [aa,seval,qK]
  exact hk _ z.aC
 obtain ⟨r,hr,bT⟩:=fo (l:=d.bf) (i:=i) (by omega)
 rw [dQ,rW bT] at hk
 have qn:F (d.bf.take i) r=iv [bj (!bh d.ab r.aR) 6,bj (bh ((d.bf.take i).map bS.aR) r.aR) 5,qy d.ab r]:=by rw [hF]
 simp only [aa,seval,qK]
 refine Jw (h2.mono z.inc) mY oC (by omega) hr (λp v hv hp=>?_)
 have CR:Am.one v=true:=hv.one
 obtain ⟨av,nv,cv,rfl⟩:=IP hv
 repeat' (first|simp only [aa,seval,qK]|with_reducible refine Nt hp Eh oC ?_)
 simp only [aa,seval,qK,r5,nC,po,Am.one,tG,nR,zFp,Aa,gN]
 refine zhv q1 JG uQ zyq ?_
 simp only [aa,seval,qK]
 rw [zT]
 simp only [aa,seval,qK,r5,po,tG,nR,List.set_cons_succ,zry]
 clear hp
 simp only [aa,seval,qK,q0.lay,gN,↓iR,gO,fY]
 refine Pv d.ab r.aR _ _ _ _ _ _ _ _ ((h0.mono z.inc).lay _ _) hs _ (λh' x=>?_)
 have e0:=Holds.top (i:=0) x rfl
 (replace z:=z.an x;replace q0:=q0.over x;replace q1:=q1.over x;replace hv:=hv.over x;rw [ao h'])
 obtain ⟨E0,ob⟩:∃ E0,E0=bx.size+0:=⟨_,rfl⟩
 rw [<- ob] at e0
 rw [<- ob]
 simp only [aa,seval,qK]
 (with_reducible apply ct);(· rfl)
 simp only [aa,seval,qK]
 refine nO _ _ _ _ (λh' f1 x r1=>?_)
 (replace z:=z.an x;replace q0:=q0.over x;replace q1:=q1.over x;replace e0:=e0.over x;replace hv:=hv.over x;rw [ao h'])
 simp only [aa,seval,qK]
 refine nO _ _ _ _ (λh' f2 x r2=>?_)
 (replace z:=z.an x;replace q0:=q0.over x;replace q1:=q1.over x;replace e0:=e0.over x;replace hv:=hv.over x;replace r1:=r1.over x;rw [ao h'])
 have r3:fB h' (.func (.func 83) ⟨[]⟩ ⟨[.pointer (some ⟨A0,0,none⟩),.pointer (some ⟨E0,0,none⟩)]⟩) (qy d.ab r):=⟨⟨_,_,_,rfl⟩,λhc K2 y gu=>by
  rw [zW]
  exact zug d.ab r _ _ _ _ _ _ _ _ A0 E0 hc bt ((h0.mono z.inc).mono y.all) hs (hv.mono y.all) (Holds.cY q0 y) (Holds.cY e0 y) K2 gu⟩
 obtain ⟨k1,u1,v1,rfl⟩:=r1.1
 obtain ⟨k2,u2,v2,rfl⟩:=r2.1
 simp only [aa,seval,qK]
 refine zU [.func k1 u1 v1,.func k2 u2 v2,.func (.func 83) ⟨[]⟩ ⟨[.pointer (some ⟨A0,0,none⟩),.pointer (some ⟨E0,0,none⟩)]⟩] [bj (!bh d.ab r.aR) 6,bj (bh ((d.bf.take i).map bS.aR) r.aR) 5,qy d.ab r] _ _ (Ag (i:=0) rfl rfl rfl (by simp)) (by simp) rfl (λi fv e h1 h2=>?_) _ (λh' x=>?_)
 .match i,h1,h2 with
  |0,h1,h2=>cases h1;cases h2;exact r1.lay _ _
  |1,h1,h2=>cases h1;cases h2;exact r2.lay _ _
  |2,h1,h2=>cases h1;cases h2;exact r3.lay _ _
 (replace z:=z.an x;replace q0:=q0.over x;replace q1:=q1.over x;replace e0:=e0.over x;replace hv:=hv.over x;replace r1:=r1.over x;replace r2:=r2.over x;rw [ao h'])
 rw [<- qn]
 clear r1 r2 r3
 simp only [aa,seval,qK]
 refine iS (λaS=>?_) (λheq=>?_)
 .rw [aA aS] at hk
  simp only [aa,seval,qK]
  exact hk _ z.aC
 rw [aB heq] at hk
 have LZ:h.size<=M:=by omega
 simp only [aa,seval,qK,e0.lay,gN,zqu,Pz]
 refine zno q1 JG uQ (λh3 q3 pD=>?_)
 replace z:=z.cw pD LZ (by omega)
 replace q0:=q0.bK pD hAM
 rw [ao h3]
 simp only [aa,seval,qK]
 rw [hw]
 have lW:(d.bf.take (i+1)).map bS.aR=(d.bf.take i).map bS.aR++[r.aR]:=by rw [nS,bT];simp
 rw [<- lW] at q3
 (rw [aX];with_reducible refine cy (m:=_) ?_ ⟨i+1,_,rfl,z,⟨rfl,by omega,q0,q3,by rw [dQ,rW bT,aB heq]⟩,bm⟩;omega)
theorem zpI (a:aj):a.val.cells.size=11:=rfl
theorem zo2 (a:aj):a.cells.length=11:=rfl
theorem zpp (a:aj):a.cells.all Am.one=true:=rfl
theorem zq6 {d:aq} (h:d.dV < 0\/1000 < d.dV\/d.cP < 1\/1048576 < d.cP\/64 < d.rules.length+d.bl.length):BW d=bj true 4:=by
 unfold BW
 congr 1
 simp only [su,jl]
 omega
theorem zo9 {d:aq} (h:¬ (d.dV < 0\/1000 < d.dV\/d.cP < 1\/1048576 < d.cP\/64 < d.rules.length+d.bl.length)):BW d=bj false 4:=by
 unfold BW
 congr 1
 simp only [Bool.or_eq_false_iff,decide_eq_false_iff_not]
 omega
theorem zrc (d:aq) (p0 p1 p2 p5 p6:ah) (q b:Int) (h:Heap) (hq:d.dV=q) (hb:d.cP=b) (h5:Sl aK.clause h p5 d.rules) (h6:Sl aK.qN h p6 d.bl) (ud:d.rules.length<=1000) (RU:d.bl.length<=1000) (K:aI) (hk:∀ h',Ext h h'->K (.int .i64 (BW d)) h'):Ok prog aG ov 52 [hU p0 p1 p2 p5 p6 q b] h K:=by
 rw [ao h]
 have z:=Ext.refl h
 have tf:∀ (h:Heap) (K:aI),aH (some p5) h K=K p5 h:=λ_ _=>rfl
 have uh:∀ (h:Heap) (K:aI),aH (some p6) h K=K p6 h:=λ_ _=>rfl
 have Bg:=λ(hh:Heap)=>h5.bn mZ hh
 have xY:=λ(hh:Heap)=>h6.bn nX hh
 have hw:IntKind.i64.wrap ((d.rules.length:Int)+(d.bl.length:Int))=((d.rules.length+d.bl.length:Nat):Int):=by rw [wrap_i64 (by omega) (by omega)];omega
 refine Ok.aw 38 (bu N52) ?_
 simp only [aa,seval,Q8,kG,Gy]
 repeat' ((with_reducible refine bq (λ_=>?_) (λ_=>?_)) <;> simp only [aa,seval,Q8,Gy,NI,oz,pV,tf,uh,Bg,xY,hw])
 all_goals
  refine nO _ _ _ _ (λh' f1 x r1=>?_)
  (replace z:=z.an x;rw [ao h'])
  obtain ⟨k1,u1,v1,rfl⟩:=r1.1
  simp only [aa,seval,Q8]
  refine r1.2 _ _ (aM.lay _ _ _ _) (λh' x=>?_)
  (replace z:=z.an x;rw [ao h'])
  first
   |rw [zq6 (by omega)] at hk
   |rw [zo9 (by omega)] at hk
  simp only [aa,seval,Q8]
  exact hk _ z.aC
theorem zud (d:aq) (a:aj) (p0 p1 p2 p5 p6:ah) (q b:Int) (A B:Nat) (h:Heap) (cR:bc 1 h) (bt:(dW p0 p1 p2 p5 p6 q b).all Am.one=true) (h0:Sl aK.str h p0 d.ab) (h1:Sl aK.pred h p1 d.bJ) (hs:d.ab.length<=1000) (q0:Holds h A (.row (dW p0 p1 p2 p5 p6 q b) 28 false)) (q1:Holds h B (.row a.cells 47 false)) (K:aI) (hk:∀ h',Ext h h'->K (.int .i64 (iC d a)) h'):Ok prog aG ov 121 [.pointer (some ⟨A,0,none⟩),.pointer (some ⟨B,0,none⟩)] h K:=by
 rw [ao h]
 have z:=Ext.refl h
 refine Ok.aw 4 (bu Kc) ?_
 simp only [aa,seval,Lc,q0.lay,q1.lay,↓iR,gO,fY,↓eP,ef,dy]
 refine zm7 d a _ _ _ _ _ _ _ _ (cR.lay _ _) bt (h0.lay _ _) (h1.lay _ _) hs _ (λh' x=>?_)
 (replace z:=z.an x;rw [ao h'])
 simp only [aa,seval,Lc]
 exact hk _ z.aC
theorem zue (d:aq) (l:aN) (v:ah) (p0 p1 p2 p5 p6:ah) (q b:Int) (A B:Nat) (h:Heap) (cR:bc 1 h) (bt:(dW p0 p1 p2 p5 p6 q b).all Am.one=true) (h0:Sl aK.str h p0 d.ab) (h1:Sl aK.pred h p1 d.bJ) (hs:d.ab.length<=1000) (hl:Sl aK.atom h v l) (gG:l.length<=1000) (q0:Holds h A (.row (dW p0 p1 p2 p5 p6 q b) 28 false)) (q1:Holds h B (.row [v] 51 false)) (K:aI) (hk:∀ h',Ext h h'->K (.int .i64 (Cc d l)) h'):Ok prog aG ov 122 [.pointer (some ⟨B,0,none⟩),.pointer (some ⟨A,0,none⟩)] h K:=by
 rw [ao h]
 have z:=Ext.refl h
 have el:∀ (h:Heap) (K:aI),aH (some v) h K=K v h:=λ_ _=>rfl
 have cU:=λ(hh:Heap)=>hl.bn bF hh
 obtain ⟨F,hF⟩:∃ F:aN->aj->Int,F=λ_ a=>iC d a:=⟨_,rfl⟩
 have Bo:Cc d l=fc F [] l:=by rw [hF];rfl
 rw [Bo] at hk
 refine Ok.aw 17 (bu Kd) ?_
 simp only [aa,seval,py,q1.lay,el,cU]
 obtain ⟨I1,aX⟩:∃ I:Nat->Env->Heap->Prop,I=(λn e h'=>∃ (i:Nat) (h1:Heap),h'=h1.lay [] h1.low/\Ext h h1/\(n=l.length - i/\i<=l.length/\Holds h1 A (.row (dW p0 p1 p2 p5 p6 q b) 28 false)/\fc F [] l=fc F (l.take i) (l.drop i))/\∃ J:Nat->ah,e=(J 0::.pointer (some ⟨A,0,none⟩)::jr J 2 4 (v::.int .i64 l.length::.int .i64 i::jr J 9 10 ([])))):=⟨_,rfl⟩
 refine du I1 _ (by rw [aX];exact ⟨0,_,rfl,z,⟨rfl,by omega,q0,rfl⟩,bm⟩) ?_
 intro n e h' aP
 rw [aX] at aP
 obtain ⟨i,bx,rfl,z,hinv,J,rfl⟩:=aP
 clear q0
 obtain ⟨rfl,hi,q0,dQ⟩:=hinv
 have hw:=ei i (by omega)
 simp only [aa,seval,py]
 refine bq (λaW=>?_) (λaW=>?_)
 rotate_left
 .rw [dQ,Ds (by omega)] at hk
  simp only [aa,seval,py]
  exact hk _ z.aC
 obtain ⟨r,hr,bT⟩:=fo (l:=l) (i:=i) (by omega)
 rw [dQ,rW bT] at hk
 have qn:F (l.take i) r=iC d r:=by rw [hF]
 simp only [aa,seval,py]
 repeat' ((first|with_reducible refine oG (hl.mono z.inc) bF bN (by omega) hr (λp hp=>?_)|with_reducible refine mw hp fD bN ?_) <;> simp only [aa,seval,py])
 clear hp
 simp only [aa,seval,py,r5,tG,nR,NP,zpI,zo2,zpp,q0.lay,↓iR,gO,fY,gI,↓eP,ef,dy]
 refine zm7 d r _ _ _ _ _ _ _ _ ((cR.ext z).lay _ _) bt ((h0.mono z.inc).lay _ _) ((h1.mono z.inc).lay _ _) hs _ (λh' x=>?_)
 (replace z:=z.an x;replace q0:=q0.over x;rw [ao h'])
 rw [<- qn]
 simp only [aa,seval,py]
 refine iS (λaS=>?_) (λheq=>?_)
 .rw [aA aS] at hk
  simp only [aa,seval,py]
  exact hk _ z.aC
 rw [aB heq] at hk
 simp only [aa,seval,py]
 rw [hw]
 (rw [aX];with_reducible refine cy (m:=_) ?_ ⟨i+1,_,rfl,z,⟨rfl,by omega,q0,by rw [dQ,rW bT,aB heq]⟩,bm⟩;omega)
theorem zlR (d:aq) (a:aj) (l:aN) (v:ah) (p0 p1 p2 p5 p6:ah) (q b:Int) (h:Heap) (cR:bc 1 h) (bt:(dW p0 p1 p2 p5 p6 q b).all Am.one=true) (h0:Sl aK.str h p0 d.ab) (h1:Sl aK.pred h p1 d.bJ) (hs:d.ab.length<=1000) (hl:Sl aK.atom h v l) (gG:l.length<=1000) (K:aI) (hk:∀ h',Ext h h'->K (.int .i64 (lz d a l)) h'):Ok prog aG ov 86 [hU p0 p1 p2 p5 p6 q b,a.val,v] h K:=by
 rw [ao h]
 have z:=Ext.refl h
 have el:∀ (h:Heap) (K:aI),aH (some v) h K=K v h:=λ_ _=>rfl
 have cU:=λ(hh:Heap)=>hl.bn bF hh
 obtain ⟨av,nv,cv,rfl⟩:=IP hl
 refine Ok.aw 12 (bu N86) ?_
 simp only [aa,seval,Rc,kG,gI,el,cU]
 rw [zT]
 simp only [aa,seval,Rc]
 refine nO _ _ _ _ (λh' f1 x r1=>?_)
 have q0:=Holds.top (i:=0) x rfl
 have q1:=Holds.top (i:=1) x rfl
 have q2:=Holds.top (i:=2) x rfl
 (replace z:=z.an x;rw [ao h'])
 obtain ⟨A0,ep⟩:∃ A0,A0=h.size+0:=⟨_,rfl⟩
 rw [<- ep] at q0
 rw [<- ep]
 obtain ⟨A1,oa⟩:∃ A1,A1=h.size+1:=⟨_,rfl⟩
 rw [<- oa] at q1
 rw [<- oa]
 obtain ⟨A2,LO⟩:∃ A2,A2=h.size+2:=⟨_,rfl⟩
 rw [<- LO] at q2
 rw [<- LO]
 have r0:fB h' (.func (.func 121) ⟨[]⟩ ⟨[.pointer (some ⟨A0,0,none⟩),.pointer (some ⟨A1,0,none⟩)]⟩) (iC d a):=⟨⟨_,_,_,rfl⟩,λhc K2 y gu=>by
  rw [zW]
  exact zud d a _ _ _ _ _ _ _ A0 A1 hc (Holds.cY (cR.ext z) y) bt ((h0.mono z.inc).mono y.all) ((h1.mono z.inc).mono y.all) hs (Holds.cY q0 y) (Holds.cY q1 y) K2 gu⟩
 have r2:fB h' (.func (.func 122) ⟨[]⟩ ⟨[.pointer (some ⟨A2,0,none⟩),.pointer (some ⟨A0,0,none⟩)]⟩) (Cc d l):=⟨⟨_,_,_,rfl⟩,λhc K2 y gu=>by
  rw [zW]
  exact zue d l _ _ _ _ _ _ _ _ A0 A2 hc (Holds.cY (cR.ext z) y) bt ((h0.mono z.inc).mono y.all) ((h1.mono z.inc).mono y.all) hs ((hl.mono z.inc).mono y.all) gG (Holds.cY q0 y) (Holds.cY q2 y) K2 gu⟩
 obtain ⟨k1,u1,v1,rfl⟩:=r1.1
 simp only [aa,seval,Rc]
 refine zU [.func (.func 121) ⟨[]⟩ ⟨[.pointer (some ⟨A0,0,none⟩),.pointer (some ⟨A1,0,none⟩)]⟩,.func k1 u1 v1,.func (.func 122) ⟨[]⟩ ⟨[.pointer (some ⟨A2,0,none⟩),.pointer (some ⟨A0,0,none⟩)]⟩] [iC d a,bj (decide (6 < l.length)) 4,Cc d l] _ _ (Ag (i:=0) rfl rfl rfl (by simp)) (by simp) rfl (λi fv e h1 h2=>?_) _ (λh' x=>?_)
 .match i,h1,h2 with
  |0,h1,h2=>cases h1;cases h2;exact r0.lay _ _
  |1,h1,h2 =>
   cases h1;cases h2
   have e:decide (6 < l.length)=decide ((l.length:Int) > 6):=by rw [Bool.eq_iff_iff,decide_eq_true_iff,decide_eq_true_iff];omega
   rw [e]
   exact r1.lay _ _
  |2,h1,h2=>cases h1;cases h2;exact r2.lay _ _
 (replace z:=z.an x;replace q0:=q0.over x;replace q1:=q1.over x;replace q2:=q2.over x;replace r1:=r1.over x;rw [ao h'])
 simp only [aa,seval,Rc]
 exact hk _ z.aC
theorem zrm (a:aj) (v:ah):(a.cells++[v])[11]? = some v:=rfl
theorem zDp (a:aj) (v:ah):cut (a.cells++[v]) 0 11=some a.cells:=rfl
theorem zFq:uB aG 22 22=true:=by kernel_rfl
theorem zpi (l:List au) (v fv:ah) (pr:au->Bool) (h:Heap) (hl:Sl aK.str h v l) (hs:l.length<=1000) (FU:∀ (x:au) (hc:Heap) (K:aI),Ext h hc->(∀ h',Ext hc h'->K (.bool (pr x)) h')->vY prog aG ov [.string x] hc K fv) (K:aI)
 (hk:∀ h',Ext h h'->K (.int .i64 (mr pr l)) h'):Ok prog aG ov 147 [v,fv] h K:=by
 rw [ao h]
 have z:=Ext.refl h
 have cU:=λ(hh:Heap)=>hl.bn cG hh
 refine Ok.aw 17 (bu Kz) ?_
 simp only [aa,seval,sG,cU]
 obtain ⟨I1,aX⟩:∃ I:Nat->Env->Heap->Prop,I=(λn e h'=>∃ (i:Nat) (h1:Heap),h'=h1.lay [] h1.low/\Ext h h1/\(n=l.length - i/\i<=l.length/\∀ x∈l.take i,pr x=false)/\∃ J:Nat->ah,e=(v::fv::jr J 2 5 (.int .i64 l.length::.int .i64 i::jr J 9 10 ([])))):=⟨_,rfl⟩
 refine du I1 _ (by rw [aX];exact ⟨0,_,rfl,z,⟨rfl,by omega,by simp⟩,bm⟩) ?_
 intro n e h' aP
 rw [aX] at aP
 obtain ⟨i,bx,rfl,z,hinv,J,rfl⟩:=aP
 obtain ⟨rfl,hi,aE⟩:=hinv
 have hw:=ei i (by omega)
 simp only [aa,seval,sG]
 refine bq (λaW=>?_) (λaW=>?_)
 rotate_left
 .rw [gA (by omega)] at aE
  have:=Tt aE
  rw [this] at hk
  simp only [aa,seval,sG]
  exact hk _ z.aC
 obtain ⟨r,hr,bT⟩:=fo (l:=l) (i:=i) (by omega)
 simp only [aa,seval,sG]
 repeat' ((first|with_reducible refine qz (hl.mono z.inc) cG nK (by omega) hr (λp hp=>?_)|with_reducible refine iY hp kJ ?_) <;> simp only [aa,seval,sG])
 refine FU _ _ _ z.aC (λh' x=>?_)
 (replace z:=z.an x;rw [ao h'])
 clear hp
 cases hx:pr r
 rotate_left
 .simp only [aa,seval,sG]
  have:=SY bT aE hx
  rw [this] at hk
  exact hk _ z.aC
 .simp only [aa,seval,sG]
  rw [hw]
  (rw [aX];with_reducible refine cy (m:=_) ?_ ⟨i+1,_,rfl,z,⟨rfl,by omega,oE (i:=i) (P:=λx:au=>pr x=false) bT aE hx⟩,bm⟩;omega)
theorem zjZ (l:List au) (v fv:ah) (pr:au->Bool) (h:Heap) (hl:Sl aK.str h v l) (hs:l.length<=1000) (FU:∀ (x:au) (hc:Heap) (K:aI),Ext h hc->(∀ h',Ext hc h'->K (.bool (pr x)) h')->vY prog aG ov [.string x] hc K fv) (K:aI)
 (hk:∀ h',Ext h h'->K (.bool (l.any pr)) h'):Ok prog aG ov 124 [v,fv] h K:=by
 refine Ok.aw 7 (bu Kf) ?_
 simp only [aa,seval,Er]
 refine zpi l v fv pr h hl hs FU _ (λh' x=>?_)
 simp only [aa,seval,Er,TB]
 refine T5 (λhh=>?_) (λhh=>?_)
 all_goals
  simp only [aa,seval,Er]
  rw [hh] at hk
  exact hk _ x
theorem zuu (l:List au) (s:au) (w:ah) (C:Nat) (h:Heap) (q:Holds h C (.row [w] 22 false)) (hl:Sl aK.str h w l) (hs:l.length<=1000) (K:aI) (hk:∀ h',Ext h h'->K (.bool (!bh l s)) h'):Ok prog aG ov 125 [.string s,.pointer (some ⟨C,0,none⟩)] h K:=by
 rw [ao h]
 have z:=Ext.refl h
 have Gb:∀ (h:Heap) (K:aI),aH (some w) h K=K w h:=λ_ _=>rfl
 refine Ok.aw 6 (bu Kg) ?_
 simp only [aa,seval,Es,q.lay,Gb]
 refine IG l w s _ (hl.lay _ _) hs _ (λh' x=>?_)
 (replace z:=z.an x;rw [ao h'])
 simp only [aa,seval,Es]
 (with_reducible apply ct);(· rfl)
 simp only [aa,seval,Es]
 exact hk _ z.aC
open Classical in
theorem zuH {c:bw} {m:List au} (hl:∀ x,x∈l↔j0 c.head x) (hm:∀ x,x∈m↔∃ a∈c.body,j0 a x):B2 c=bj (l.any λv => !bh m v) 9:=by
 unfold B2
 congr 1
 rw [Bool.eq_iff_iff,decide_eq_true_iff,tF]
 constructor
 .rintro ⟨x,h1,h2⟩
  refine ⟨x,(hl x).2 h1,?_⟩
  have:bh m x=false:=Bool.eq_false_iff.2 (λhh=>by
   obtain ⟨a,ha,hv⟩:=(hm x).1 (cC.1 hh)
   exact h2 a ha hv)
  rw [this];rfl
 .rintro ⟨x,h1,h2⟩
  refine ⟨x,(hl x).1 h1,λa ha hv=>?_⟩
  have:bh m x=true:=cC.2 ((hm x).2 ⟨a,ha,hv⟩)
  rw [this] at h2
  simp at h2
theorem zuv (c:bw) (v:ah) (h:Heap) (hl:Sl aK.atom h v c.body) (hs:c.body.length<=200) (K:aI) (hk:∀ h',Ext h h'->K (.int .i64 (B2 c)) h'):Ok prog aG ov 88 [.agg ⟨c.head.cells++[v]⟩] h K:=by
 rw [ao h]
 have z:=Ext.refl h
 have el:∀ (h:Heap) (K:aI),aH (some v) h K=K v h:=λ_ _=>rfl
 have cU:=λ(hh:Heap)=>hl.bn bF hh
 refine Ok.aw 26 (bu N88) ?_
 simp only [aa,seval,rK,zrm,el,cU]
 refine lZ (λh' x hq=>?_)
 have q0:=hq 0 _ rfl
 have q1:=hq 1 _ rfl
 clear hq
 (replace z:=z.an x;rw [ao h'])
 obtain ⟨A0,ep⟩:∃ A0,A0=h.size+0:=⟨_,rfl⟩
 rw [<- ep] at q0
 rw [<- ep]
 obtain ⟨C,hC⟩:∃ C,C=h.size+1:=⟨_,rfl⟩
 rw [<- hC] at q1
 rw [<- hC]
 obtain ⟨I1,aX⟩:∃ I:Nat->Env->Heap->Prop,I=(λn e h'=>∃ (i:Nat) (wv:ah) (A:Nat) (j6:List au) (h1:Heap),h'=h1.lay [] h1.low/\Ext h h1/\(n=c.body.length - i/\i<=c.body.length/\Holds h1 A0 (.row (c.head.cells++[v]) 69 false)/\Holds h1 C (.row [wv] 22 false)/\Ow aK.str h h1 9 A wv j6/\C < A/\j6.length<=4*i/\(∀ x,x∈j6↔∃ a∈c.body.take i,j0 a x))/\∃ J:Nat->ah,e=(J 0::.pointer (some ⟨A0,0,none⟩)::J 2::.pointer (some ⟨C,0,none⟩)::jr J 4 4 (v::.int .i64 c.body.length::.int .i64 i::jr J 11 16 ([])))):=⟨_,rfl⟩
 refine du I1 _ (by rw [aX];exact ⟨0,.slice none 0 0,C+1,[],_,rfl,z,⟨rfl,by omega,q0,q1,Ow.nil (by omega),by omega,by simp,by simp⟩,bm⟩) ?_
 intro n e h' aP
 rw [aX] at aP
 obtain ⟨i,wv,A,j6,bx,rfl,z,hinv,J,rfl⟩:=aP
 clear q0 q1
 obtain ⟨rfl,hi,q0,q1,ow,EV,hhl,bY⟩:=hinv
 have hw:=ei i (by omega)
 have Gb:∀ (h:Heap) (K:aI),aH (some wv) h K=K wv h:=λ_ _=>rfl
 simp only [aa,seval,rK]
 refine bq (λaW=>?_) (λaW=>?_)
 .obtain ⟨r,hr,bT⟩:=fo (l:=c.body) (i:=i) (by omega)
  simp only [aa,seval,rK]
  repeat' ((first|with_reducible refine oG (hl.mono z.inc) bF bN (by omega) hr (λp hp=>?_)|with_reducible refine mw hp fD bN ?_) <;> simp only [aa,seval,rK])
  clear hp
  simp only [aa,seval,rK,r5,tG,nR,NP,gI,zpI,zo2,zpp]
  with_reducible first|refine dL (by simp only [rK]) z.aC ?_
  simp only [aa,seval,rK,q1.lay,Gb,↓eP,ef,dy]
  refine zsJ r _ _ (λw2 l2 h' x s2 kq fS=>?_)
  (((with_reducible refine cW ?_ ?_ ?_);(· exact (by (simp only [cV]);have:=z.size;omega));(· exact x));replace z:=z.an x;replace q0:=q0.over x;replace q1:=q1.over x;replace ow:=ow.over x;rw [ao h'])
  have YC:∀ (h:Heap) (K:aI),aH (some w2) h K=K w2 h:=λ_ _=>rfl
  simp only [dx,seval,rK,ly,zFq]
  have hz:=z.size
  have dj:=ow.fresh
  have hq1:=q1.lt
  obtain ⟨news,jV,jx⟩:=vT (A:=A) (r:=aK.str) (by decide) (s2.lay [] (h'.size+0)) (λcs y hr=>hr)
  obtain ⟨w3,h3,A3,g1,o3,pD,g4,g5⟩:=uy (t:=22) cG zV rfl (by decide) (by rw [bd];omega) (ow.mono (bH.lay _ _ _)) jV jx (by omega) (by omega)
  rw [g1]
  have Cz:C < A3:=by
   rcases g4 with e|e
   .omega
   .rw [bd] at e;omega
  refine nM (A:=A) (by kernel_rfl) (by rw [bd];omega) (by omega) (by simpa only [b9,bd,bG,dY,dK,i0] using pD) ?_
  replace q0:=q0.bK pD (by omega)
  replace q1:=q1.bK pD (by omega)
  replace z:=(z.lk [] (h'.size+0) (by omega)).step pD (by omega)
  clear ow s2
  rw [ao h3]
  have aeQ:Am.one w3=true:=(o3.sl (by decide)).one
  obtain ⟨a3,n3,c3,rfl⟩:=IP (o3.sl (by decide))
  simp only [aa,seval,rK]
  refine zxS q1 Zr rfl rfl rfl (λh4 q4 c4=>?_)
  have zO:=z.size
  replace q4:Holds h4 C (.row [.slice a3 n3 c3] 22 false):=q4
  refine nM (A:=C) (by kernel_rfl) (by rw [bd];omega) (by omega) (by simpa only [b9,bd,bG,dY,dK,i0] using c4) ?_
  replace q0:=q0.bK c4 (by omega)
  replace o3:=(o3.mono (bH.lay h3 [] (h3.size+0))).turn (λ_ _ _ _ h=>h) c4 (by omega) q4
  replace z:=(z.lk [] (h3.size+0) (by omega)).step c4 (by omega)
  clear q1
  rw [ao h4]
  simp only [dx,seval,rK]
  ((with_reducible refine ⟨z.cK.lay _ _,?_⟩);(intro _ h' zz x _);(simp only [b9,bG] at x);replace q0:=q0.over x;replace q4:=q4.over x;replace o3:=o3.over x;(replace z:=zz);(clear zz);rw [ao h'])
  simp only [aa,seval,rK]
  rw [hw]
  have lW:c.body.take (i+1)=c.body.take i++[r]:=by rw [nS,bT];rfl
  (rw [aX];with_reducible refine cy (m:=_) ?_ ⟨i+1,.slice a3 n3 c3,A3,j6++l2,_,rfl,z,⟨rfl,by omega,q0,q4,o3,Cz,by rw [dI];omega,λx=>by rw [iA,bY,fS,lW];simp [or_and_right,exists_or]⟩,bm⟩;omega)
 .rw [gA (by omega)] at bY
  simp only [aa,seval,rK,q0.lay,↓zDp,ef,dy]
  have sh:=ow.sl (by decide)
  clear ow
  refine zsJ c.head _ _ (λw2 l2 h' x s2 kq fS=>?_)
  (replace z:=z.an x;replace q1:=q1.over x;replace sh:=sh.over x;rw [ao h'])
  have YC:∀ (h:Heap) (K:aI),aH (some w2) h K=K w2 h:=λ_ _=>rfl
  simp only [aa,seval,rK]
  refine zjZ l2 w2 _ (λv => !bh j6 v) _ (s2.lay _ _) (by omega) (λy hc K' xe hK=>by
   rw [zW]
   exact zuu j6 y wv C hc ((q1.on _ _).ext xe) ((sh.lay _ _).mono xe.inc) (by omega) K' hK) _ (λh' x=>?_)
  (replace z:=z.an x;replace q1:=q1.over x;replace sh:=sh.over x;rw [ao h'])
  simp only [aa,seval,rK]
  refine nO _ _ _ _ (λh' f1 x r1=>?_)
  (replace z:=z.an x;replace q1:=q1.over x;replace sh:=sh.over x;rw [ao h'])
  obtain ⟨k1,u1,v1,rfl⟩:=r1.1
  simp only [aa,seval,rK]
  refine r1.2 _ _ (aM.lay _ _ _ _) (λh' x=>?_)
  (replace z:=z.an x;replace q1:=q1.over x;replace sh:=sh.over x;rw [ao h'])
  rw [zuH fS bY] at hk
  simp only [aa,seval,rK]
  exact hk _ z.aC
theorem zDo (a:aj) (v:ah):(a.cells++[v])[0]? = some (.string a.says):=rfl
theorem NJ (a:aj) (v:ah):(a.cells++[v]).length=12:=rfl
theorem NK (a:aj) (x:Option Addr) (n c:Nat):(a.cells++[Value.slice x n c]).all Am.one=true:=rfl
theorem zDq (a:aj) (v:ah):cut (a.cells++[v]) 0 12=some (a.cells++[v]):=rfl
theorem zDw (h:Heap) (l:List ba) (w i o:Nat) (v:ah) (hi:i < l.length):iO aG 69 (.pointer (some ⟨h.size+i,o,none⟩)) v (h.lay l w)=if v.cells.size=12 then uC l[i]? i o v.cells.toList h l w else none:=y6 rk h l w i o v hi
theorem WC (s:au) (a:aj) (v:ah):cut (Value.string s::(a.cells++[v])) 1 11=some a.cells:=rfl
theorem zDu (h:Heap) (l:List ba) (w i o:Nat) (v:ah) (hi:i < l.length):iO aG 72 (.pointer (some ⟨h.size+i,o,none⟩)) v (h.lay l w)=if v.cells.size=13 then uC l[i]? i o v.cells.toList h l w else none:=y6 qa h l w i o v hi
theorem zxi (d:aq) (c:bw) (v:ah) (p0 p1 p2 p5 p6:ah) (q b:Int) (A B:Nat) (h:Heap) (cR:bc 1 h) (bt:(dW p0 p1 p2 p5 p6 q b).all Am.one=true) (h0:Sl aK.str h p0 d.ab) (h1:Sl aK.pred h p1 d.bJ) (hs:d.ab.length<=1000) (hl:Sl aK.atom h v c.body) (gG:c.body.length<=1000) (q0:Holds h A (.row (dW p0 p1 p2 p5 p6 q b) 28 false)) (q1:Holds h B (.row (c.head.cells++[v]) 69 false)) (K:aI) (hk:∀ h',Ext h h'->K (.int .i64 (lz d c.head c.body)) h'):Ok prog aG ov 85 [.pointer (some ⟨A,0,none⟩),.pointer (some ⟨B,0,none⟩)] h K:=by
 rw [ao h]
 have z:=Ext.refl h
 have el:∀ (h:Heap) (K:aI),aH (some v) h K=K v h:=λ_ _=>rfl
 refine Ok.aw 7 (bu N85) ?_
 simp only [aa,seval,c85,q0.lay,q1.lay,↓iR,gO,fY,↓zDp,zrm,ef,dy,el]
 refine zlR d c.head c.body v _ _ _ _ _ _ _ _ (cR.lay _ _) bt (h0.lay _ _) (h1.lay _ _) hs (hl.lay _ _) gG _ (λh' x=>?_)
 (replace z:=z.an x;rw [ao h'])
 simp only [aa,seval,c85]
 exact hk _ z.aC
theorem zxj (c:bw) (v:ah) (B:Nat) (h:Heap) (hl:Sl aK.atom h v c.body) (gG:c.body.length<=200) (q1:Holds h B (.row (c.head.cells++[v]) 69 false)) (K:aI) (hk:∀ h',Ext h h'->K (.int .i64 (B2 c)) h'):Ok prog aG ov 87 [.pointer (some ⟨B,0,none⟩)] h K:=by
 rw [ao h]
 have z:=Ext.refl h
 have nI:∀ (h:Heap) (K:aI),aH (some (.agg (c.head.cells++[v]).toArray)) h K=K (.agg ⟨c.head.cells++[v]⟩) h:=λ_ _=>rfl
 refine Ok.aw 3 (bu N87) ?_
 simp only [aa,seval,c87,q1.lay,↓zDq,nI]
 refine zuv c v _ (hl.lay _ _) gG _ (λh' x=>?_)
 (replace z:=z.an x;rw [ao h'])
 simp only [aa,seval,c87]
 exact hk _ z.aC
theorem zxk (d:aq) (g:eJ) (v:ah) (p0 p1 p2 p5 p6:ah) (q b:Int) (A B:Nat) (h:Heap) (cR:bc 1 h) (bt:(dW p0 p1 p2 p5 p6 q b).all Am.one=true) (h0:Sl aK.str h p0 d.ab) (h1:Sl aK.pred h p1 d.bJ) (hs:d.ab.length<=1000) (hl:Sl aK.atom h v g.body) (gG:g.body.length<=1000) (q0:Holds h A (.row (dW p0 p1 p2 p5 p6 q b) 28 false)) (q1:Holds h B (.row (.string g.to::(g.head.cells++[v])) 72 false)) (K:aI) (hk:∀ h',Ext h h'->K (.int .i64 (lz d g.head g.body)) h'):Ok prog aG ov 89 [.pointer (some ⟨A,0,none⟩),.pointer (some ⟨B,0,none⟩)] h K:=by
 rw [ao h]
 have z:=Ext.refl h
 have el:∀ (h:Heap) (K:aI),aH (some v) h K=K v h:=λ_ _=>rfl
 refine Ok.aw 7 (bu N89) ?_
 simp only [aa,seval,c89,q0.lay,q1.lay,↓iR,gO,fY,↓WC,zrm,ef,dy,el]
 refine zlR d g.head g.body v _ _ _ _ _ _ _ _ (cR.lay _ _) bt (h0.lay _ _) (h1.lay _ _) hs (hl.lay _ _) gG _ (λh' x=>?_)
 (replace z:=z.an x;rw [ao h'])
 simp only [aa,seval,c89]
 exact hk _ z.aC
theorem zuN (d:aq):DD d=if fc (λ_ c=>tE d c) [] d.rules=0 then fc (λ_ g=>sg d g) [] d.bl else fc (λ_ c=>tE d c) [] d.rules:=by
 unfold DD
 rw [fV,fV,ztR]
 split
 .split
  .rename_i h;exact h.symm
  .rfl
 .rfl
theorem zxl (d:aq) (p0 p1 p2 p5 p6:ah) (q b:Int) (h:Heap) (cR:bc 1 h) (bt:(dW p0 p1 p2 p5 p6 q b).all Am.one=true) (h0:Sl aK.str h p0 d.ab) (h1:Sl aK.pred h p1 d.bJ) (hs:d.ab.length<=1000) (h5:Sl aK.clause h p5 d.rules) (ud:d.rules.length<=1000) (hb5:∀ r∈d.rules,r.body.length<=200) (h6:Sl aK.qN h p6 d.bl) (RU:d.bl.length<=1000) (W7:∀ g∈d.bl,g.body.length<=200) (K:aI) (hk:∀ h',Ext h h'->K (.int .i64 (DD d)) h'):Ok prog aG ov 53 [hU p0 p1 p2 p5 p6 q b] h K:=by
 rw [ao h]
 have z:=Ext.refl h
 have tf:∀ (h:Heap) (K:aI),aH (some p5) h K=K p5 h:=λ_ _=>rfl
 have uh:∀ (h:Heap) (K:aI),aH (some p6) h K=K p6 h:=λ_ _=>rfl
 have gN:∀ (s:au) (h:Heap) (K:aI),aH (some (.string s)) h K=K (.string s) h:=λ_ _ _=>rfl
 have Bg:=λ(hh:Heap)=>h5.bn mZ hh
 have xY:=λ(hh:Heap)=>h6.bn nX hh
 rw [zuN] at hk
 obtain ⟨F,hF⟩:∃ F:List bw->bw->Int,F=λ_ c=>tE d c:=⟨_,rfl⟩
 obtain ⟨E,hE⟩:∃ E:List eJ->eJ->Int,E=λ_ g=>sg d g:=⟨_,rfl⟩
 rw [<- hF,<- hE] at hk
 refine Ok.aw 50 (bu N53) ?_
 simp only [aa,seval,lU,kG,oz,tf,Bg]
 refine lZ (λh' x hq=>?_)
 have q0:=hq 0 _ rfl
 clear hq
 (replace z:=z.an x;rw [ao h'])
 obtain ⟨A0,ep⟩:∃ A0,A0=h.size+0:=⟨_,rfl⟩
 rw [<- ep] at q0
 rw [<- ep]
 obtain ⟨I1,aX⟩:∃ I:Nat->Env->Heap->Prop,I=(λn e h'=>∃ (i:Nat) (h1:Heap),h'=h1.lay [] h1.low/\Ext h h1/\(n=d.rules.length - i/\i<=d.rules.length/\Holds h1 A0 (.row (dW p0 p1 p2 p5 p6 q b) 28 false)/\fc F [] d.rules=fc F (d.rules.take i) (d.rules.drop i))/\∃ J:Nat->ah,e=(J 0::.pointer (some ⟨A0,0,none⟩)::jr J 2 8 (p5::.int .i64 d.rules.length::.int .i64 i::jr J 13 38 ([])))):=⟨_,rfl⟩
 refine du I1 _ (by rw [aX];exact ⟨0,_,rfl,z,⟨rfl,by omega,q0,rfl⟩,bm⟩) ?_
 intro n e h' aP
 rw [aX] at aP
 obtain ⟨i,bx,rfl,z,hinv,J,rfl⟩:=aP
 clear q0
 obtain ⟨rfl,hi,q0,dQ⟩:=hinv
 have hw:=ei i (by omega)
 simp only [aa,seval,lU]
 refine bq (λaW=>?_) (λaW=>?_)
 .obtain ⟨r,hr,bT⟩:=fo (l:=d.rules) (i:=i) (by omega)
  rw [dQ,rW bT] at hk
  have qn:F (d.rules.take i) r=iv [lz d r.head r.body,B2 r]:=by rw [hF];rfl
  have hbr:=hb5 r (fW bT)
  simp only [aa,seval,lU]
  refine QI (h5.mono z.inc) mZ rk (by omega) hr (λp v hv hp=>?_)
  obtain ⟨av,nv,cv,rfl⟩:=IP hv
  repeat' (first|simp only [aa,seval,lU]|with_reducible refine ldc hp K1 rk ?_)
  clear hp
  simp only [aa,seval,lU,r5,tG,nR,zDw,NJ,NK]
  have Fe:∀ (bs:List ba) (w:Nat) (i:Nat) (b:ba),bs[i]? = some b->Holds (bx.lay bs w) (bx.size+i) b:=λbs w i b hb=>⟨by rw [bd];have:=(dH.1 hb).1;omega,by rw [iB];exact hb⟩
  refine zU [.func (.func 85) ⟨[]⟩ ⟨[.pointer (some ⟨A0,0,none⟩),.pointer (some ⟨bx.size+0,0,none⟩)]⟩,.func (.func 87) ⟨[]⟩ ⟨[.pointer (some ⟨bx.size+0,0,none⟩)]⟩] [lz d r.head r.body,B2 r] _ _ (Ag (i:=1) rfl rfl rfl (by simp)) (by simp) rfl (λi fv e g1 g2=>?_) _ (λh' x=>?_)
  .match i,g1,g2 with
   |0,g1,g2 =>
    cases g1;cases g2
    exact ⟨⟨_,_,_,rfl⟩,λhc K2 y gu=>by
     rw [zW]
     exact zxi d r _ _ _ _ _ _ _ _ A0 _ hc (Holds.cY ((cR.ext z).lay _ _) y) bt (((h0.mono z.inc).lay _ _).mono y.all) (((h1.mono z.inc).lay _ _).mono y.all) hs ((hv.lay _ _).mono y.all) (by omega) (Holds.cY (q0.on _ _) y) (Holds.cY (Fe _ _ 0 _ rfl) y) K2 gu⟩
   |1,g1,g2 =>
    cases g1;cases g2
    exact ⟨⟨_,_,_,rfl⟩,λhc K2 y gu=>by
     rw [zW]
     exact zxj r _ _ hc ((hv.lay _ _).mono y.all) hbr (Holds.cY (Fe _ _ 0 _ rfl) y) K2 gu⟩
  (replace z:=z.an x;replace q0:=q0.over x;rw [ao h'])
  rw [<- qn]
  clear Fe
  simp only [aa,seval,lU]
  refine iS (λaS=>?_) (λheq=>?_)
  .rw [aA aS,aA aS] at hk
   simp only [aa,seval,lU]
   exact hk _ z.aC
  rw [aB heq] at hk
  simp only [aa,seval,lU]
  rw [hw]
  (rw [aX];with_reducible refine cy (m:=_) ?_ ⟨i+1,_,rfl,z,⟨rfl,by omega,q0,by rw [dQ,rW bT,aB heq]⟩,bm⟩;omega)
 rw [dQ,Ds (by omega),aB rfl] at hk
 clear dQ hw hi aW
 simp only [aa,seval,lU,q0.lay,pV,uh,xY]
 obtain ⟨I2,fF⟩:∃ I:Nat->Env->Heap->Prop,I=(λn e h'=>∃ (i:Nat) (h1:Heap),h'=h1.lay [] h1.low/\Ext h h1/\(n=d.bl.length - i/\i<=d.bl.length/\Holds h1 A0 (.row (dW p0 p1 p2 p5 p6 q b) 28 false)/\fc E [] d.bl=fc E (d.bl.take i) (d.bl.drop i))/\∃ J:Nat->ah,e=(J 0::.pointer (some ⟨A0,0,none⟩)::jr J 2 23 (p6::.int .i64 d.bl.length::.int .i64 i::jr J 28 23 ([])))):=⟨_,rfl⟩
 refine du I2 _ (by rw [fF];exact ⟨0,_,rfl,z,⟨rfl,by omega,q0,rfl⟩,bm⟩) ?_
 intro n e h' aP
 rw [fF] at aP
 obtain ⟨i,bx,rfl,z,hinv,J,rfl⟩:=aP
 clear q0
 obtain ⟨rfl,hi,q0,dQ⟩:=hinv
 have hw:=ei i (by omega)
 simp only [aa,seval,lU]
 refine bq (λaW=>?_) (λaW=>?_)
 .obtain ⟨r,hr,bT⟩:=fo (l:=d.bl) (i:=i) (by omega)
  rw [dQ,rW bT] at hk
  have qn:E (d.bl.take i) r=iv [bj (!bh d.ab r.to) 6,bj (decide (r.to=r.head.says)) 11,lz d r.head r.body]:=by rw [hE];rfl
  have hbr:=W7 r (fW bT)
  simp only [aa,seval,lU]
  refine TW (h6.mono z.inc) nX qa (by omega) hr (λp v hv hp=>?_)
  obtain ⟨av,nv,cv,rfl⟩:=IP hv
  repeat' (first|simp only [aa,seval,lU]|with_reducible refine ldG hp Ei qa ?_)
  clear hp
  simp only [aa,seval,lU,r5,nC,Am.one,tG,nR,zDu,NJ,NK]
  refine lZ (λh' x hq=>?_)
  have e0:=hq 0 _ rfl
  clear hq
  (replace z:=z.an x;replace q0:=q0.over x;replace hv:=hv.over x;rw [ao h'])
  obtain ⟨E0,ob⟩:∃ E0,E0=bx.size+0:=⟨_,rfl⟩
  rw [<- ob] at e0
  rw [<- ob]
  with_reducible first|refine dL (by simp only [lU]) z.aC ?_
  simp only [aa,seval,lU,q0.lay,e0.lay,gN,↓iR,gO,fY]
  refine Pv d.ab r.to _ _ _ _ _ _ _ _ ((h0.mono z.inc).lay _ _) hs _ (λh' x=>?_)
  (((with_reducible refine cW ?_ ?_ ?_);(· exact (by (simp only [cV]);have:=z.size;omega));(· exact x));replace z:=z.an x;replace q0:=q0.over x;replace e0:=e0.over x;replace hv:=hv.over x;rw [ao h'])
  simp only [aa,seval,lU]
  (with_reducible apply ct);(· rfl)
  simp only [aa,seval,lU]
  refine nO _ _ _ _ (λh' f1 x r1=>?_)
  (((with_reducible refine cW ?_ ?_ ?_);(· exact (by (simp only [cV]);have:=z.size;omega));(· exact x));replace z:=z.an x;replace q0:=q0.over x;replace e0:=e0.over x;replace hv:=hv.over x;rw [ao h'])
  simp only [aa,seval,lU,e0.lay,zDo,gN]
  rw [zT]
  simp only [aa,seval,lU]
  refine nO _ _ _ _ (λh' f2 x r2=>?_)
  (((with_reducible refine cW ?_ ?_ ?_);(· exact (by (simp only [cV]);have:=z.size;omega));(· exact x));replace z:=z.an x;replace q0:=q0.over x;replace e0:=e0.over x;replace hv:=hv.over x;replace r1:=r1.over x;rw [ao h'])
  have r3:fB h' (.func (.func 89) ⟨[]⟩ ⟨[.pointer (some ⟨A0,0,none⟩),.pointer (some ⟨E0,0,none⟩)]⟩) (lz d r.head r.body):=⟨⟨_,_,_,rfl⟩,λhc K2 y gu=>by
   rw [zW]
   exact zxk d r _ _ _ _ _ _ _ _ A0 E0 hc (Holds.cY (cR.ext z) y) bt ((h0.mono z.inc).mono y.all) ((h1.mono z.inc).mono y.all) hs (hv.mono y.all) (by omega) (Holds.cY q0 y) (Holds.cY e0 y) K2 gu⟩
  obtain ⟨k1,u1,v1,rfl⟩:=r1.1
  obtain ⟨k2,u2,v2,rfl⟩:=r2.1
  simp only [aa,seval,lU]
  refine vN (by have:=z.size;omega) (by omega) ?_
  simp only [aa,seval,lU]
  refine zU [.func k1 u1 v1,.func k2 u2 v2,.func (.func 89) ⟨[]⟩ ⟨[.pointer (some ⟨A0,0,none⟩),.pointer (some ⟨E0,0,none⟩)]⟩] [bj (!bh d.ab r.to) 6,bj (decide (r.to=r.head.says)) 11,lz d r.head r.body] _ _ (Ag (i:=0) rfl rfl rfl (by simp)) (by simp) rfl (λi fv e g1 g2=>?_) _ (λh' x=>?_)
  .match i,g1,g2 with
   |0,g1,g2=>cases g1;cases g2;exact r1.lay _ _
   |1,g1,g2=>cases g1;cases g2;exact r2.lay _ _
   |2,g1,g2=>cases g1;cases g2;exact r3.lay _ _
  (((with_reducible refine cW ?_ ?_ ?_);(· exact (by (simp only [cV]);have:=z.size;omega));(· exact x));replace z:=z.an x;replace q0:=q0.over x;replace e0:=e0.over x;replace hv:=hv.over x;replace r1:=r1.over x;replace r2:=r2.over x;rw [ao h'])
  rw [<- qn]
  clear r1 r2 r3
  simp only [aa,seval,lU]
  ((with_reducible refine ⟨z.cK.lay _ _,?_⟩);(intro _ h' zz x _);(simp only [b9,bG] at x);replace q0:=q0.over x;(replace z:=zz);(clear zz);rw [ao h'])
  simp only [aa,seval,lU]
  refine iS (λaS=>?_) (λheq=>?_)
  .rw [aA aS] at hk
   simp only [aa,seval,lU]
   exact hk _ z.aC
  rw [aB heq] at hk
  simp only [aa,seval,lU]
  rw [hw]
  (rw [fF];with_reducible refine cy (m:=_) ?_ ⟨i+1,_,rfl,z,⟨rfl,by omega,q0,by rw [dQ,rW bT,aB heq]⟩,bm⟩;omega)
 .rw [dQ,Ds (by omega)] at hk
  simp only [aa,seval,lU]
  exact hk _ z.aC
structure Ef (d:aq):Prop where
 p:d.ab.length<=1000
 c:d.bf.length<=1000
 r:d.rules.length<=1000
 rb:∀ r∈d.rules,r.body.length<=200
 g:d.bl.length<=1000
 gb:∀ g∈d.bl,g.body.length<=200
theorem zwY (d:aq) (p0 p1 p2 p5 p6:ah) (q b:Int) (h:Heap) (cR:bc 1 h) (bt:(dW p0 p1 p2 p5 p6 q b).all Am.one=true) (hd:fx h p0 p1 p2 p5 p6 d) (hq:d.dV=q) (hb:d.cP=b) (hn:Ef d) (K:aI) (hk:∀ h',Ext h h'->K (.int .i64 (oF d)) h'):Ok prog aG ov 30 [hU p0 p1 p2 p5 p6 q b] h K:=by
 rw [ao h]
 have z:=Ext.refl h
 obtain ⟨es,pL⟩:∃ es,es=[rB d.ab,uA d.bJ,yZ d.ab d.bf,BW d,DD d]:=⟨_,rfl⟩
 obtain ⟨rL,RE⟩:∃ rL:List ah,rL=[.func (.func 49) ⟨[]⟩ ⟨[]⟩,.func (.func 50) ⟨[]⟩ ⟨[]⟩,.func (.func 51) ⟨[]⟩ ⟨[]⟩,.func (.func 52) ⟨[]⟩ ⟨[]⟩,.func (.func 53) ⟨[]⟩ ⟨[]⟩]:=⟨_,rfl⟩
 have CH:oF d=iv es:=by rw [pL];rfl
 rw [CH] at hk
 have eC:∀ (i:Nat) fv e,rL[i]? = some fv->es[i]? = some e->∀ hc (K:aI),Ext h hc->(∀ h',Ext hc h'->K (.int .i64 e) h')->vY prog aG ov [hU p0 p1 p2 p5 p6 q b] hc K fv:=by
  intro i fv e h1 h2 hc K2 y gu
  rw [RE] at h1
  rw [pL] at h2
  have jS:=hd.mono y.inc
  match i,h1,h2 with
  |0,h1,h2=>cases h1;cases h2;rw [rV];exact zxf d.ab _ _ _ _ _ _ _ hc (cR.ext y) jS.s0 K2 gu
  |1,h1,h2=>cases h1;cases h2;rw [rV];exact zxe d.bJ _ _ _ _ _ _ _ hc (cR.ext y) jS.s1 K2 gu
  |2,h1,h2=>cases h1;cases h2;rw [rV];exact zuh d _ _ _ _ _ _ _ hc bt jS.s0 jS.s2 hn.p hn.c K2 gu
  |3,h1,h2=>cases h1;cases h2;rw [rV];exact zrc d _ _ _ _ _ _ _ hc hq hb jS.s5 jS.s6 hn.r hn.g K2 gu
  |4,h1,h2=>cases h1;cases h2;rw [rV];exact zxl d _ _ _ _ _ _ _ hc (cR.ext y) bt jS.s0 jS.s1 hn.p jS.s5 hn.r hn.rb jS.s6 hn.g hn.gb K2 gu
 have zF:rL.length=5:=by rw [RE];rfl
 have wu:es.length=5:=by rw [pL];rfl
 refine Ok.aw 20 (bu N30) ?_
 simp only [aa,seval,AO,kG]
 refine lZ (λh' x hq=>?_)
 have q0:=hq 0 _ rfl
 have q1:=hq 1 _ rfl
 clear hq
 (replace z:=z.an x;rw [ao h'])
 obtain ⟨A0,ep⟩:∃ A0,A0=h.size+0:=⟨_,rfl⟩
 rw [<- ep] at q0
 rw [<- ep]
 obtain ⟨A1,oa⟩:∃ A1,A1=h.size+1:=⟨_,rfl⟩
 rw [<- oa] at q1
 rw [<- oa]
 have sf:Sl aK.LJ h' (.slice (some ⟨A1,0,none⟩) 5 5) rL:=by
  refine .inr ⟨A1,0,5,_,_,_,by rw [zF],by rw [zF];unfold maxLen;omega,.inl ⟨by unfold G;omega,by omega⟩,q1.lt,q1.get,λj x hx=>⟨[x],?_,rfl,?_⟩⟩
  .rw [RE] at hx
   match j,hx with
   |0,hx=>cases hx;rfl
   |1,hx=>cases hx;rfl
   |2,hx=>cases hx;rfl
   |3,hx=>cases hx;rfl
   |4,hx=>cases hx;rfl
  .rw [RE] at hx
   match j,hx with
   |0,hx=>cases hx;rfl
   |1,hx=>cases hx;rfl
   |2,hx=>cases hx;rfl
   |3,hx=>cases hx;rfl
   |4,hx=>cases hx;rfl
 clear q1
 obtain ⟨sv,C4⟩:∃ sv,sv=Value.slice (some ⟨A1,0,none⟩) 5 5:=⟨_,rfl⟩
 rw [<- C4] at sf ⊢
 obtain ⟨I1,aX⟩:∃ I:Nat->Env->Heap->Prop,I=(λn e h'=>∃ (i:Nat) (h1:Heap),h'=h1.lay [] h1.low/\Ext h h1/\(n=5 - i/\i<=5/\Holds h1 A0 (.row (dW p0 p1 p2 p5 p6 q b) 28 false)/\Sl aK.LJ h1 sv rL/\(∀ x∈es.take i,x=0))/\∃ J:Nat->ah,e=(J 0::.pointer (some ⟨A0,0,none⟩)::jr J 2 6 (sv::.int .i64 5::.int .i64 i::jr J 11 10 ([])))):=⟨_,rfl⟩
 refine du I1 _ (by rw [aX];exact ⟨0,_,rfl,z,⟨rfl,by omega,q0,sf,by simp⟩,bm⟩) ?_
 intro n e h' aP
 rw [aX] at aP
 obtain ⟨i,bx,rfl,z,hinv,J,rfl⟩:=aP
 clear q0 sf
 obtain ⟨rfl,hi,q0,sf,aE⟩:=hinv
 have hw:=ei i (by omega)
 simp only [aa,seval,AO]
 refine bq (λaW=>?_) (λaW=>?_)
 rotate_left
 .rw [gA (by omega)] at aE
  rw [dr.2 aE] at hk
  simp only [aa,seval,AO]
  exact hk _ z.aC
 obtain ⟨fv,hf,Xm⟩:=fo (l:=rL) (i:=i) (by omega)
 obtain ⟨e,he,rN⟩:=fo (l:=es) (i:=i) (by omega)
 simp only [aa,seval,AO]
 repeat' ((first|with_reducible refine zwE sf AU Zt (by omega) hf (λp hp=>?_)|with_reducible refine iY hp K3 ?_) <;> simp only [aa,seval,AO])
 simp only [aa,seval,AO,q0.lay,↓iR,gO,fY]
 refine eC i fv e Xm rN _ _ z.aC (λh' x=>?_)
 (replace z:=z.an x;replace q0:=q0.over x;replace sf:=sf.over x;rw [ao h'])
 simp only [aa,seval,AO]
 refine iS (λaS=>?_) (λheq=>?_)
 .rw [zoL aE rN aS] at hk
  simp only [aa,seval,AO]
  exact hk _ z.aC
 .simp only [aa,seval,AO]
  rw [hw]
  (rw [aX];with_reducible refine cy (m:=_) ?_ ⟨i+1,_,rfl,z,⟨rfl,by omega,q0,sf,oE (i:=i) (P:=λx:Int=>x=0) rN aE heq⟩,bm⟩;omega)
end Go.Proofs.YtmamldleclamjaaGreatDoor
