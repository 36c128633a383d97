/- The code of some functions, node by node, for simp. Written by a program (mkcode.py). No condition. -/
import Derived.Test.YtnkmeidmdaidhaaGreatDoorG27
set_option linter.unusedSimpArgs false
set_option linter.unusedVariables false
set_option maxRecDepth 100000
set_option maxHeartbeats 0
noncomputable section
namespace Go.Proofs.YtnkmeidmdaidhaaGreatDoor
open Go.Am Tryz
def XS:=bR f43
def x43:=PLift.up (by have c:=bU XS f43;simp only [aS,f43,seval] at c;exact nd c <| nd @cJ <| @QI)
theorem HV:type_of% x43.down:=x43.down
def Yh:=bR f77
def x77:=PLift.up (by have c:=bU Yh f77;simp only [aS,f77,seval] at c;exact nd c <| nd @zA6 <| nd @kc <| nd @Ae <| nd @Af <| nd @iF <| nd @D0 <| nd @jx <| nd @cJ <| nd @lD <| nd @iG <| nd @D7 <| @Rb)
theorem rU:type_of% x77.down:=x77.down
def XR:=bR f42
def x42:=PLift.up (by have c:=bU XR f42;simp only [aS,f42,seval] at c;exact nd c <| nd @Ae <| nd @Af <| nd @jx <| nd @cJ <| nd @ri <| @QH)
theorem CE:type_of% x42.down:=x42.down
def Yf:=bR f75
def x75:=PLift.up (by have c:=bU Yf f75;simp only [aS,f75,seval] at c;exact nd c <| nd @cJ <| @Q9)
theorem ML:type_of% x75.down:=x75.down
def XH:=bR f24
def x24:=PLift.up (by have c:=bU XH f24;simp only [aS,f24,seval] at c;exact nd c <| nd @kc <| nd @uN <| nd @oG <| nd @iF <| nd @cJ <| nd @ri <| nd @rk <| nd @iG <| @Qw)
theorem tU:type_of% x24.down:=x24.down
def Ya:=bR f65
def x65:=PLift.up (by have c:=bU Ya f65;simp only [aS,f65,seval] at c;exact nd c <| nd @kc <| nd @B7 <| nd @xY <| nd @pO <| nd @kr <| nd @cJ <| nd @nH <| @Q4)
theorem CF:type_of% x65.down:=x65.down
theorem YI (a b:aV):dy aJ 20 9 (.string a) (.string b)=some (decide (a=b)):=by
 have h:dy aJ 20 9 (.string a) (.string b)=some (a.data.toList == b.data.toList):=by kernel_rfl
 rw [h,Ma]
theorem skS (a:aV):B3 (.string a) (.string a)=true:=by
 show Ap (.string a) (.string a)=true
 unfold Ap
 simp
theorem zBK (h:Heap) (l:List aZ) (w i o:Nat) (v:ai) (hi:i < l.length):iQ aJ 123 (.pointer (some ⟨h.size+i,o,none⟩)) v (h.lay l w)=if v.cells.size=0 then uC l[i]? i o v.cells.toList h l w else none:=Aa zCJ h l w i o v hi
theorem zzR:nP aJ 123 []=some (.agg ⟨[]⟩):=by kernel_rfl
theorem zyZ:aJ.zero 123=some (.agg ⟨[]⟩):=by kernel_rfl
theorem zrF (a:ae) (u:ai):cut (a.cells++[u]) 0 11=some a.cells:=rfl
theorem zoa (a:ae) (u:ai):cut (a.cells++[u]) 0 12=some (a.cells++[u]):=rfl
theorem zn0 (a:ae) (u:ai):(a.cells++[u])[11]? = some u:=rfl
theorem zAn (a:ae) (u:ai):(a.cells++[u]).length=12:=rfl
theorem zAC {a:ae} {w:ai} (h:Am.one w=true):(a.cells++[w]).all Am.one=true:=by
 rw [Fg]
 simp only [iy,jt,h,G7]
 rfl
theorem zyh (a:ae) (h:Heap) (dq:bh 1 h) (K:aO) (lR:bF a->∀ h',Ext h h'->K (.bool true) h') (lz:¬ bF a->∀ h',Ext h h'->K (.bool false) h'):Ok prog aJ ov 43 [a.val] h K:=by
 rw [az h]
 have z:=Ext.refl h
 refine Ok.aF 9 (bY XS) ?_
 repeat' (simp only [aa,seval,HV,js,↓fU,eG,dS])
 refine Ls a _ (dq.lay _ _) _ (λhv h' x=>?_) (λhv c h' hc x=>?_)
 .have q0:=ak.top (i:=0) x rfl
  (replace z:=z.au x;rw [az h'])
  repeat' (simp only [aa,seval,HV,q0.lay,↓fU,eG,dS])
  refine zoS a _ _ (λh' x=>?_)
  (replace z:=z.au x;replace q0:=q0.over x;rw [az h'])
  cases hg:a.ground
  .repeat' ( simp only [aa,seval,HV])
   exact lz (λx=>by rw [x.ground] at hg;cases hg) _ z.aw
  .repeat' ( simp only [aa,seval,HV])
   exact lR ⟨hv,hg⟩ _ z.aw
 ·(replace z:=z.au x;rw [az h'])
  repeat' (first|simp only [aa,seval,HV]|((with_reducible apply oQ) <;> intro _))
  .exact absurd (by assumption) hc
  .exact lz (λx=>hv x.valid) _ z.aw
open Classical in
def kL (a:ae):Bool := !decide (bm a)
theorem zr2 (a:ae) (h:Heap) (dq:bh 1 h) (K:aO) (hk:∀ h',Ext h h'->K (.bool (kL a)) h'):Ok prog aJ ov 75 [a.val] h K:=by
 rw [az h]
 have z:=Ext.refl h
 refine Ok.aF 5 (bY Yf) ?_
 repeat' (simp only [aa,seval,ML,js,↓fU,eG,dS])
 refine Ls a _ (dq.lay _ _) _ (λhv h' x=>?_) (λhv c h' hc x=>?_)
 .have e:kL a=false:=by unfold kL;simp [hv]
  rw [e] at hk
  (replace z:=z.au x;rw [az h'])
  repeat' (simp only [aa,seval,ML])
  first|exact hk _ z.aw|skip
 .have e:kL a=true:=by unfold kL;simp [hv]
  rw [e] at hk
  (replace z:=z.au x;rw [az h'])
  simp only [aa,seval,ML]
  refine Ps (λ_=>?_) (λhh=>absurd hh hc)
  repeat' (simp only [aa,seval,ML])
  exact hk _ z.aw
theorem ztV (c:aq) (v:ai) (h:Heap) (hl:Sl aG.atom h v c.body) (hn:c.body.length<=1000) (K:aO) (lR:(∀ x,qE c.head x->∃ b∈c.body,qE b x)->∀ h',Ext h h'->K (.bool true) h') (lz:¬ (∀ x,qE c.head x->∃ b∈c.body,qE b x)->∀ h',Ext h h'->K (.bool false) h'):Ok prog aJ ov 77 [.agg ⟨c.head.cells++[v]⟩] h K:=by
 rw [az h]
 have z:=Ext.refl h
 have dg:∀ (h:Heap) (K:aO),aM (some v) h K=K v h:=λ_ _=>rfl
 have eD:=λ(hh:Heap)=>hl.bW cM hh
 refine Ok.aF 48 (bY Yh) ?_
 repeat' (simp only [aa,seval,rU,Lm,zn0,dg,eD])
 refine uw (λh' x hq=>?_)
 have q0:=hq 0 _ rfl
 have qm:=hq 1 _ rfl
 clear hq
 (replace z:=z.au x;rw [az h'])
 obtain ⟨A0,iX⟩:∃ A,A=h.size+0:=⟨_,rfl⟩
 obtain ⟨Mm,YW⟩:∃ A,A=h.size+1:=⟨_,rfl⟩
 rw [<- iX] at q0
 rw [<- YW] at qm
 rw [<- iX,<- YW]
 have m0:dp Value.string h' Mm ([]:List aV):=dp.new qm
 clear qm
 obtain ⟨I1,bo⟩:∃ I:Nat->Env->Heap->Prop,I=(λn e h'=>∃ (i:Nat) (met:List aV) (h1:Heap),h'=h1.lay [] h1.low/\Ext h h1/\(n=c.body.length - i/\i<=c.body.length/\(∀ x,x∈met↔∃ y∈c.body.take i,qE y x)/\ak h1 A0 (.row (c.head.cells++[v]) 35 false)/\dp Value.string h1 Mm met)/\∃ J:Nat->ai,e=(J 0::.pointer (some ⟨A0,0,none⟩)::J 2::.map (some Mm)::jr J 4 10 (v::.int .i64 c.body.length::.int .i64 i::jr J 17 32 ([])))):=⟨_,rfl⟩
 refine fh I1 _ (by rw [bo];exact ⟨0,[],_,rfl,z,⟨rfl,by omega,by simp,q0,m0⟩,bO⟩) ?_
 intro n e h' aU
 rw [bo] at aU
 obtain ⟨i,met,cF,rfl,z,hinv,J,rfl⟩:=aU
 clear q0 m0
 obtain ⟨rfl,hi,zc,q0,m0⟩:=hinv
 have mF:=gE i (by omega)
 simp only [aa,seval,rU]
 refine cm (λbc=>?_) (λbc=>?_)
 .obtain ⟨y,hy,FX⟩:=i4 (l:=c.body) (i:=i) (by omega)
  repeat' (first|simp only [aa,seval,rU,iw,iv,fW,nb,js,zsr,zrX,zsa,↓fU,eG,dS]|with_reducible refine tH (hl.mono z.inc) cM cw (by omega) hy (λp hp=>?_)|with_reducible refine rj hp jb cw ?_)
  refine zr7 y _ _ (λw l h' x s S7 hm=>?_)
  (replace z:=z.au x;replace q0:=q0.over x;replace m0:=m0.over x;rw [az h'])
  have wz:∀ (h:Heap) (K:aO),aM (some w) h K=K w h:=λ_ _=>rfl
  have o0:=λ(hh:Heap)=>s.bW lQ hh
  clear hp
  repeat' (simp only [aa,seval,rU,o0])
  obtain ⟨Hb,rfl⟩:∃ Hb,Hb=h':=⟨_,rfl⟩
  have hMl:=m0.lt
  obtain ⟨I2,gN⟩:∃ I:Nat->Env->Heap->Prop,I=(λn e h'=>∃ (j:Nat) (m8:List aV) (h1:Heap),h'=h1.lay [] h1.low/\Ext h h1/\(n=l.length - j/\j<=l.length/\(∀ x,x∈m8↔(∃ y∈c.body.take i,qE y x)\/x∈l.take j)/\ak h1 A0 (.row (c.head.cells++[v]) 35 false)/\dp Value.string h1 Mm m8/\Sl aG.str h1 w l)/\∃ J:Nat->ai,e=(J 0::.pointer (some ⟨A0,0,none⟩)::J 2::.map (some Mm)::jr J 4 10 (v::.int .i64 c.body.length::.int .i64 i::jr J 17 4 (w::.int .i64 l.length::.int .i64 j::jr J 24 25 ([]))))):=⟨_,rfl⟩
  refine fh I2 _ (by rw [gN];exact ⟨0,met,_,rfl,z,⟨rfl,by omega,by simpa using zc,q0,m0,s⟩,bO⟩) ?_
  intro n e h' aU
  rw [gN] at aU
  obtain ⟨j,m8,da,rfl,z,hinv,J,rfl⟩:=aU
  clear q0 m0 s
  obtain ⟨rfl,hj,vP,q0,m0,s⟩:=hinv
  have xF:=gE j (by omega)
  have mi:=z.size
  simp only [aa,seval,rU]
  refine cm (λfM=>?_) (λfM=>?_)
  rotate_left
  .rw [iR (l:=l) (i:=j) (by omega)] at vP
   have DB:∀ x,x∈m8↔∃ y∈c.body.take (i+1),qE y x:=by
    intro x
    rw [vP,hm,oT,FX]
    simp only [Option.toList_some,iT,eM]
    constructor
    .rintro (⟨b,hb,e⟩|e)
     .exact ⟨b,.inl hb,e⟩
     .exact ⟨y,.inr rfl,e⟩
    .rintro ⟨b,hb|hb,e⟩
     .exact .inl ⟨b,hb,e⟩
     .exact .inr (hb ▸ e)
   repeat' (simp only [aa,seval,rU])
   rw [mF]
   (rw [bo];with_reducible refine dA (m:=_) ?_ ⟨i+1,m8,_,rfl,z,⟨rfl,by omega,DB,q0,m0⟩,bO⟩;omega)
  obtain ⟨x0,FW,zm⟩:=i4 (l:=l) (i:=j) (by omega)
  repeat' (first|simp only [aa,seval,rU,Lc,zzR]|with_reducible refine Xn s lQ Eh (by omega) FW (λp hp=>?_)|with_reducible refine uB hp Ay ?_)
  have hMM:=m0.lt
  have hM0:A0≠Mm:=by omega
  refine zyR (a:=x0) m0 (λ_=>rfl) skS zBo YI (λh' m1 cg=>?_)
  have q1:=q0.bB cg hM0
  have s1:=Sl.Kj s (λ_ _ _ _ h=>h) m0 cg
  replace z:=z.aw.step cg (by omega)
  rw [az h']
  have DB:∀ x,x∈x0::m8↔(∃ y∈c.body.take i,qE y x)\/x∈l.take (j+1):=by
   intro x
   rw [db,vP,oT,zm,iT]
   simp only [Option.toList_some,eM]
   constructor
   .rintro (e|e|e)
    .exact .inr (.inr e)
    .exact .inl e
    .exact .inr (.inl e)
   .rintro (e|e|e)
    .exact .inr (.inl e)
    .exact .inr (.inr e)
    .exact .inl e
  clear q0 m0 s
  repeat' (simp only [aa,seval,rU])
  rw [xF]
  (rw [gN];with_reducible refine dA (m:=_) ?_ ⟨j+1,x0::m8,_,rfl,z,⟨rfl,by omega,DB,q1,m1,s1⟩,bO⟩;omega)
 rw [iR (by omega)] at zc
 repeat' (simp only [aa,seval,rU,q0.lay,↓zrF,eG,dS])
 refine zr7 c.head _ _ (λw l h' x s S7 hm=>?_)
 (replace z:=z.au x;replace q0:=q0.over x;replace m0:=m0.over x;rw [az h'])
 have wz:∀ (h:Heap) (K:aO),aM (some w) h K=K w h:=λ_ _=>rfl
 have o0:=λ(hh:Heap)=>s.bW lQ hh
 repeat' (simp only [aa,seval,rU,o0])
 obtain ⟨I3,tV⟩:∃ I:Nat->Env->Heap->Prop,I=(λn e h'=>∃ (j:Nat) (h1:Heap),h'=h1.lay [] h1.low/\Ext h h1/\(n=l.length - j/\j<=l.length/\(∀ x∈l.take j,x∈met)/\dp Value.string h1 Mm met/\Sl aG.str h1 w l)/\∃ J:Nat->ai,e=(jr J 0 3 (.map (some Mm)::jr J 4 30 (w::.int .i64 l.length::.int .i64 j::jr J 37 12 ([]))))):=⟨_,rfl⟩
 refine fh I3 _ (by rw [tV];exact ⟨0,_,rfl,z,⟨rfl,by omega,by simp,m0,s⟩,bO⟩) ?_
 intro n e h' aU
 rw [tV] at aU
 obtain ⟨j,da,rfl,z,hinv,J,rfl⟩:=aU
 clear m0 s
 obtain ⟨rfl,hj,aE,m0,s⟩:=hinv
 have xF:=gE j (by omega)
 simp only [aa,seval,rU]
 refine cm (λfM=>?_) (λfM=>?_)
 rotate_left
 .rw [iR (by omega)] at aE
  repeat' (simp only [aa,seval,rU])
  exact lR (λx hx=>(zc x).1 (aE x ((hm x).2 hx))) _ z.aw
 obtain ⟨x0,FW,zm⟩:=i4 (l:=l) (i:=j) (by omega)
 repeat' (first|simp only [aa,seval,rU,LB]|with_reducible refine Xn s lQ Eh (by omega) FW (λp hp=>?_)|with_reducible refine uB hp Ay ?_)
 refine ztH (a:=x0) m0 (λ_=>rfl) zBo YI zyZ (λaU=>?_) (λaU=>?_)
 all_goals
  repeat' (first|simp only [aa,seval,rU,iw,jt,iv,fW,zBK]|((with_reducible apply cK);(· rfl)))
 .rw [xF]
  refine Gn z.aw (λH z hO hI=>?_)
  (rw [tV];with_reducible refine dA (m:=_) ?_ ⟨j+1,_,rfl,z,⟨rfl,by omega,wY (i:=j) (P:=λx:aV=>x∈met) zm aE aU,m0.hold hO,s.mono hI⟩,bO⟩;omega)
 .exact lz (λhh=>aU ((zc x0).2 (hh x0 ((hm x0).1 (ek zm))))) _ z.aw
theorem zAw (c:aq) (v:ai) (h:Heap) (dq:bh 1 h) (hl:Sl aG.atom h v c.body) (hn:c.body.length<=1000) (K:aO) (lR:nV c->∀ h',Ext h h'->K (.bool true) h') (lz:¬ nV c->∀ h',Ext h h'->K (.bool false) h'):Ok prog aJ ov 42 [.agg ⟨c.head.cells++[v]⟩] h K:=by
 rw [az h]
 have z:=Ext.refl h
 have dg:∀ (h:Heap) (K:aO),aM (some v) h K=K v h:=λ_ _=>rfl
 refine Ok.aF 19 (bY XR) ?_
 repeat' (simp only [aa,seval,CE,↓zrF,eG,dS])
 refine zr2 c.head _ (dq.lay _ _) _ (λh' x=>?_)
 have q0:=ak.top (i:=0) x rfl
 (replace z:=z.au x;rw [az h'])
 obtain ⟨A0,iX⟩:∃ A0,A0=h.size+0:=⟨_,rfl⟩
 rw [<- iX] at q0
 rw [<- iX]
 cases hb:kL c.head
 rotate_left
 .repeat' (first|simp only [aa,seval,CE]|((with_reducible apply cK);(· rfl)))
  exact lz (λx=>by unfold kL at hb;simp [x.head] at hb) _ z.aw
 have hhd:bm c.head:=by unfold kL at hb;simpa using hb
 repeat' (first|simp only [aa,seval,CE,q0.lay,zn0,dg]|((with_reducible apply cK);(· rfl)))
 refine zis c.body v _ kL _ ((hl.mono z.inc).lay _ _) hn (λa hc K' xe hK=>by rw [xN];exact zr2 a hc (((dq.ext z).lay _ _).ext xe) K' hK) _ (λh' x=>?_)
 (replace z:=z.au x;replace q0:=q0.over x;rw [az h'])
 cases vh:c.body.any kL
 rotate_left
 .repeat' (first|simp only [aa,seval,CE]|((with_reducible apply cK);(· rfl)))
  refine lz (λx=>?_) _ z.aw
  obtain ⟨t,ht,ic⟩:=Fc.1 vh
  unfold kL at ic
  simp [x.body t ht] at ic
 have gV:∀ b∈c.body,bm b:=λb hm=>by
  have:=L5.1 vh b hm
  unfold kL at this
  simpa using this
 repeat' (first|simp only [aa,seval,CE,q0.lay,↓zoa]|((with_reducible apply cK);(· rfl)))
 refine ztV c v _ ((hl.mono z.inc).lay _ _) hn _ (λhr h' x=>?_) (λhr h' x=>?_)
 ·(replace z:=z.au x;( replace q0:=q0.over x );rw [az h'])
  repeat' (simp only [aa,seval,CE])
  exact lR ⟨hhd,gV,hr⟩ _ z.aw
 ·(replace z:=z.au x;( replace q0:=q0.over x );rw [az h'])
  repeat' (simp only [aa,seval,CE])
  exact lz (λx=>hr x.mj) _ z.aw
theorem zAv (cl:List aq) (facts:aN) (v u:ai) (h:Heap) (dq:bh 1 h) (hl:Sl aG.clause h v cl) (hf:Sl aG.atom h u facts) (hn:cl.length<=1000) (kQ:∀ c∈cl,c.body.length<=1000) (kT:facts.length<=1000) (K:aO) (lR:eb cl facts->∀ h',Ext h h'->K (.bool true) h') (lz:¬ eb cl facts->∀ h',Ext h h'->K (.bool false) h'):Ok prog aJ ov 24 [v,u] h K:=by
 rw [az h]
 have z:=Ext.refl h
 have eD:=λ(hh:Heap)=>hl.bW jv hh
 have Ds:=λ(hh:Heap)=>hf.bW cM hh
 refine Ok.aF 27 (bY XH) ?_
 simp only [aa,seval,tU,eD]
 obtain ⟨I1,bo⟩:∃ I:Nat->Env->Heap->Prop,I=(λn e h'=>∃ (i:Nat) (h1:Heap),h'=h1.lay [] h1.low/\Ext h h1/\(n=cl.length - i/\i<=cl.length/\(∀ c∈cl.take i,nV c))/\∃ J:Nat->ai,e=(v::u::jr J 2 7 (v::.int .i64 cl.length::.int .i64 i::jr J 12 17 ([])))):=⟨_,rfl⟩
 refine fh I1 _ (by rw [bo];exact ⟨0,_,rfl,z,⟨rfl,by omega,by simp⟩,bO⟩) ?_
 intro n e h' aU
 rw [bo] at aU
 obtain ⟨i,cF,rfl,z,hinv,J,rfl⟩:=aU
 obtain ⟨rfl,hi,aE⟩:=hinv
 have hw:=gE i (by omega)
 simp only [aa,seval,tU]
 refine cm (λbc=>?_) (λbc=>?_)
 .obtain ⟨r,hr,cI⟩:=i4 (l:=cl) (i:=i) (by omega)
  repeat' (first|simp only [aa,seval,tU]|with_reducible refine GX (hl.mono z.inc) jv kx (by omega) hr (λp bd gV hp=>?_)|with_reducible refine JZ hp sK kx ?_)
  have It:=zAC (a:=r.head) gV.one
  repeat' (simp only [aa,seval,tU,iw,iv,fW,ry,zAn,It,↓zoa])
  refine zAw r _ _ ((dq.ext z).lay _ _) (Sl.lay (by assumption) _ _) (kQ r (ek cI)) _ (λho h' x=>?_) (λho h' x=>?_)
  ·(replace z:=z.au x;rw [az h'])
   repeat' (first|simp only [aa,seval,tU]|((with_reducible apply cK);(· rfl)))
   rw [hw]
   (rw [bo];with_reducible refine dA (m:=_) ?_ ⟨i+1,_,rfl,z,⟨rfl,by omega,wY (i:=i) (P:=nV) cI aE ho⟩,bO⟩;omega)
  ·(replace z:=z.au x;rw [az h'])
   repeat' (first|simp only [aa,seval,tU]|((with_reducible apply cK);(· rfl)))
   exact lz (λx=>ho (x.clauses r (ek cI))) _ z.aw
 rw [iR (by omega)] at aE
 repeat' (simp only [aa,seval,tU,Ds])
 obtain ⟨I2,gN⟩:∃ I:Nat->Env->Heap->Prop,I=(λn e h'=>∃ (k:Nat) (h1:Heap),h'=h1.lay [] h1.low/\Ext h h1/\(n=facts.length - k/\k<=facts.length/\(∀ a∈facts.take k,bF a))/\∃ J:Nat->ai,e=(v::u::jr J 2 17 (u::.int .i64 facts.length::.int .i64 k::jr J 22 7 ([])))):=⟨_,rfl⟩
 refine fh I2 _ (by rw [gN];exact ⟨0,_,rfl,z,⟨rfl,by omega,by simp⟩,bO⟩) ?_
 intro n e h' aU
 rw [gN] at aU
 obtain ⟨k,cF,rfl,z,hinv,J,rfl⟩:=aU
 obtain ⟨rfl,SY,jG⟩:=hinv
 have zl:=gE k (by omega)
 simp only [aa,seval,tU]
 refine cm (λfM=>?_) (λfM=>?_)
 rotate_left
 .rw [iR (by omega)] at jG
  repeat' (simp only [aa,seval,tU])
  exact lR ⟨aE,jG⟩ _ z.aw
 obtain ⟨y,hy,FX⟩:=i4 (l:=facts) (i:=k) (by omega)
 repeat' (first|simp only [aa,seval,tU,iw,iv,fW,nb,js,zsr,zrX,zsa,↓fU,eG,dS]|with_reducible refine tH (hf.mono z.inc) cM cw (by omega) hy (λp hp=>?_)|with_reducible refine rj hp jb cw ?_)
 refine zyh y _ ((dq.ext z).lay _ _) _ (λql h' x=>?_) (λql h' x=>?_)
 ·(replace z:=z.au x;rw [az h'])
  repeat' (first|simp only [aa,seval,tU]|((with_reducible apply cK);(· rfl)))
  rw [zl]
  (rw [gN];with_reducible refine dA (m:=_) ?_ ⟨k+1,_,rfl,z,⟨rfl,by omega,wY (i:=k) (P:=bF) FX jG ql⟩,bO⟩;omega)
 ·(replace z:=z.au x;rw [az h'])
  repeat' (first|simp only [aa,seval,tU]|((with_reducible apply cK);(· rfl)))
  exact lz (λx=>ql (x.facts y (ek FX))) _ z.aw
end Go.Proofs.YtnkmeidmdaidhaaGreatDoor
