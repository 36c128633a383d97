/- The code of some functions, node by node, for simp. Written by a program (mkcode.py). No condition. -/
import Derived.Test.YtnkmeidmdaidhaaGreatDoorG27
set_option linter.unusedSimpArgs false
set_option linter.unusedVariables false
set_option maxRecDepth 100000
set_option maxHeartbeats 0
noncomputable section
namespace Go.Proofs.YtnkmeidmdaidhaaGreatDoor
open Go.Am Tryz
def VB:=bD f43
def Yk:=PLift.up (by have c:=bG VB f43;simp only [aQ,f43,seval] at c;exact nd c <| nd @cj <| @OD)
theorem F7:type_of% Yk.down:=Yk.down
def V1:=bD f77
def YN:=PLift.up (by have c:=bG V1 f77;simp only [aQ,f77,seval] at c;exact nd c <| nd @zz0 <| nd @jb <| nd @yi <| nd @yj <| nd @fJ <| nd @Ce <| nd @ix <| nd @cj <| nd @jZ <| nd @fK <| nd @Ck <| @O7)
theorem p0:type_of% YN.down:=YN.down
def VA:=bD f42
def Yj:=PLift.up (by have c:=bG VA f42;simp only [aQ,f42,seval] at c;exact nd c <| nd @yi <| nd @yj <| nd @ix <| nd @cj <| nd @pw <| @OC)
theorem AE:type_of% Yj.down:=Yj.down
def VZ:=bD f75
def YL:=PLift.up (by have c:=bG VZ f75;simp only [aQ,f75,seval] at c;exact nd c <| nd @cj <| @O5)
theorem KL:type_of% YL.down:=YL.down
def Vn:=bD f24
def X5:=PLift.up (by have c:=bG Vn f24;simp only [aQ,f24,seval] at c;exact nd c <| nd @jb <| nd @sH <| nd @mV <| nd @fJ <| nd @cj <| nd @pw <| nd @px <| nd @fK <| @Oi)
theorem rP:type_of% X5.down:=X5.down
def VU:=bD f65
def YG:=PLift.up (by have c:=bG VU f65;simp only [aQ,f65,seval] at c;exact nd c <| nd @jb <| nd @zV <| nd @vZ <| nd @nN <| nd @jm <| nd @cj <| nd @mh <| @O0)
theorem AF:type_of% YG.down:=YG.down
theorem Wv (a b:bf):cV aH 20 9 (.string a) (.string b)=some (decide (a=b)):=by
 have h:cV aH 20 9 (.string a) (.string b)=some (a.data.toList == b.data.toList):=by kernel_rfl
 rw [h,Kb]
theorem skS (a:bf):zL (.string a) (.string a)=true:=by
 show yq (.string a) (.string a)=true
 unfold yq
 simp
theorem zAE (h:Heap) (l:List bc) (w i o:Nat) (v:ai) (hi:i < l.length):gN aH 123 (.pointer (some ⟨h.size+i,o,none⟩)) v (h.lay l w)=if v.cells.size=0 then sd l[i]? i o v.cells.toList h l w else none:=yn zBD h l w i o v hi
theorem zyL:mu aH 123 []=some (.agg ⟨[]⟩):=by kernel_rfl
theorem zxN:aH.zero 123=some (.agg ⟨[]⟩):=by kernel_rfl
theorem zqO (a:ae) (u:ai):cut (a.cells++[u]) 0 11=some a.cells:=rfl
theorem znc (a:ae) (u:ai):cut (a.cells++[u]) 0 12=some (a.cells++[u]):=rfl
theorem zm4 (a:ae) (u:ai):(a.cells++[u])[11]? = some u:=rfl
theorem zzi (a:ae) (u:ai):(a.cells++[u]).length=12:=rfl
theorem zzy {a:ae} {w:ai} (h:Am.one w=true):(a.cells++[w]).all Am.one=true:=by
 rw [Dq]
 simp only [gA,il,h,Dz]
 rfl
theorem zw3 (a:ae) (h:Heap) (cY:bj 1 h) (K:aL) (kh:ke a->∀ h',Ext h h'->K (.bool true) h') (jX:¬ ke a->∀ h',Ext h h'->K (.bool false) h'):Ok prog aH ov 43 [a.val] h K:=by
 rw [aq h]
 have z:=Ext.refl h
 refine Ok.aC 9 (bH VB) ?_
 repeat' (simp only [aa,seval,F7,iB,↓eH,dJ,dt])
 refine JE a _ (cY.lay _ _) _ (λhv h' x=>?_) (λhv c h' hc x=>?_)
 .have q0:=ak.top (i:=0) x rfl
  (replace z:=z.ao x;rw [aq h'])
  repeat' (simp only [aa,seval,F7,q0.lay,↓eH,dJ,dt])
  refine znU a _ _ (λh' x=>?_)
  (replace z:=z.ao x;replace q0:=q0.over x;rw [aq h'])
  cases hg:a.ground
  .repeat' ( simp only [aa,seval,F7])
   exact jX (λx=>by rw [x.ground] at hg;cases hg) _ z.aw
  .repeat' ( simp only [aa,seval,F7])
   exact kh ⟨hv,hg⟩ _ z.aw
 ·(replace z:=z.ao x;rw [aq h'])
  repeat' (first|simp only [aa,seval,F7]|((with_reducible apply pK) <;> intro _))
  .exact absurd (by assumption) hc
  .exact jX (λx=>hv x.valid) _ z.aw
open Classical in
def jC (a:ae):Bool := !decide (bT a)
theorem zrb (a:ae) (h:Heap) (cY:bj 1 h) (K:aL) (hk:∀ h',Ext h h'->K (.bool (jC a)) h'):Ok prog aH ov 75 [a.val] h K:=by
 rw [aq h]
 have z:=Ext.refl h
 refine Ok.aC 5 (bH VZ) ?_
 repeat' (simp only [aa,seval,KL,iB,↓eH,dJ,dt])
 refine JE a _ (cY.lay _ _) _ (λhv h' x=>?_) (λhv c h' hc x=>?_)
 .have e:jC a=false:=by unfold jC;simp [hv]
  rw [e] at hk
  (replace z:=z.ao x;rw [aq h'])
  repeat' (simp only [aa,seval,KL])
  first|exact hk _ z.aw|skip
 .have e:jC a=true:=by unfold jC;simp [hv]
  rw [e] at hk
  (replace z:=z.ao x;rw [aq h'])
  simp only [aa,seval,KL]
  refine M8 (λ_=>?_) (λhh=>absurd hh hc)
  repeat' (simp only [aa,seval,KL])
  exact hk _ z.aw
theorem zsZ (c:ay) (v:ai) (h:Heap) (hl:Sl aF.atom h v c.body) (hn:c.body.length<=1000) (K:aL) (kh:(∀ x,sk c.head x->∃ b∈c.body,sk b x)->∀ h',Ext h h'->K (.bool true) h') (jX:¬ (∀ x,sk c.head x->∃ b∈c.body,sk b x)->∀ h',Ext h h'->K (.bool false) h'):Ok prog aH ov 77 [.agg ⟨c.head.cells++[v]⟩] h K:=by
 rw [aq h]
 have z:=Ext.refl h
 have cu:∀ (h:Heap) (K:aL),aK (some v) h K=K v h:=λ_ _=>rfl
 have dG:=λ(hh:Heap)=>hl.bP cF hh
 refine Ok.aC 48 (bH V1) ?_
 repeat' (simp only [aa,seval,p0,Jy,zm4,cu,dG])
 refine r6 (λh' x hq=>?_)
 have q0:=hq 0 _ rfl
 have qm:=hq 1 _ rfl
 clear hq
 (replace z:=z.ao x;rw [aq h'])
 obtain ⟨A0,gO⟩:∃ A,A=h.size+0:=⟨_,rfl⟩
 obtain ⟨Mm,WJ⟩:∃ A,A=h.size+1:=⟨_,rfl⟩
 rw [<- gO] at q0
 rw [<- WJ] at qm
 rw [<- gO,<- WJ]
 have m0:ea Value.string h' Mm ([]:List bf):=ea.new qm
 clear qm
 obtain ⟨I1,aY⟩:∃ I:Nat->Env->Heap->Prop,I=(λn e h'=>∃ (i:Nat) (met:List bf) (h1:Heap),h'=h1.lay [] h1.low/\Ext h h1/\(n=c.body.length - i/\i<=c.body.length/\(∀ x,x∈met↔∃ y∈c.body.take i,sk y x)/\ak h1 A0 (.row (c.head.cells++[v]) 35 false)/\ea Value.string h1 Mm met)/\∃ J:Nat->ai,e=(J 0::.pointer (some ⟨A0,0,none⟩)::J 2::.map (some Mm)::jr J 4 10 (v::.int .i64 c.body.length::.int .i64 i::jr J 17 32 ([])))):=⟨_,rfl⟩
 refine dV I1 _ (by rw [aY];exact ⟨0,[],_,rfl,z,⟨rfl,by omega,by simp,q0,m0⟩,bw⟩) ?_
 intro n e h' aT
 rw [aY] at aT
 obtain ⟨i,met,bW,rfl,z,hinv,J,rfl⟩:=aT
 clear q0 m0
 obtain ⟨rfl,hi,xl,q0,m0⟩:=hinv
 have jx:=fe i (by omega)
 simp only [aa,seval,p0]
 refine b9 (λaW=>?_) (λaW=>?_)
 .obtain ⟨y,hy,D3⟩:=ig (l:=c.body) (i:=i) (by omega)
  repeat' (first|simp only [aa,seval,p0,gy,gv,eA,lJ,iB,zrz,zq8,zrm,↓eH,dJ,dt]|with_reducible refine uQ (hl.mono z.inc) cF cw (by omega) hy (λp hp=>?_)|with_reducible refine rq hp iM cw ?_)
  refine zrj y _ _ (λw l h' x s QO hm=>?_)
  (replace z:=z.ao x;replace q0:=q0.over x;replace m0:=m0.over x;rw [aq h'])
  have ub:∀ (h:Heap) (K:aL),aK (some w) h K=K w h:=λ_ _=>rfl
  have rS:=λ(hh:Heap)=>s.bP kg hh
  clear hp
  repeat' (simp only [aa,seval,p0,rS])
  obtain ⟨Hb,rfl⟩:∃ Hb,Hb=h':=⟨_,rfl⟩
  have hMl:=m0.lt
  obtain ⟨I2,fI⟩:∃ I:Nat->Env->Heap->Prop,I=(λn e h'=>∃ (j:Nat) (pz:List bf) (h1:Heap),h'=h1.lay [] h1.low/\Ext h h1/\(n=l.length - j/\j<=l.length/\(∀ x,x∈pz↔(∃ y∈c.body.take i,sk y x)\/x∈l.take j)/\ak h1 A0 (.row (c.head.cells++[v]) 35 false)/\ea Value.string h1 Mm pz/\Sl aF.str h1 w l)/\∃ J:Nat->ai,e=(J 0::.pointer (some ⟨A0,0,none⟩)::J 2::.map (some Mm)::jr J 4 10 (v::.int .i64 c.body.length::.int .i64 i::jr J 17 4 (w::.int .i64 l.length::.int .i64 j::jr J 24 25 ([]))))):=⟨_,rfl⟩
  refine dV I2 _ (by rw [fI];exact ⟨0,met,_,rfl,z,⟨rfl,by omega,by simpa using xl,q0,m0,s⟩,bw⟩) ?_
  intro n e h' aT
  rw [fI] at aT
  obtain ⟨j,pz,cK,rfl,z,hinv,J,rfl⟩:=aT
  clear q0 m0 s
  obtain ⟨rfl,hj,tE,q0,m0,s⟩:=hinv
  have vA:=fe j (by omega)
  have kD:=z.size
  simp only [aa,seval,p0]
  refine b9 (λeM=>?_) (λeM=>?_)
  rotate_left
  .rw [iK (l:=l) (i:=j) (by omega)] at tE
   have BK:∀ x,x∈pz↔∃ y∈c.body.take (i+1),sk y x:=by
    intro x
    rw [tE,hm,od,D3]
    simp only [Option.toList_some,ju,ek]
    constructor
    .rintro (⟨b,hb,e⟩|e)
     .exact ⟨b,.inl hb,e⟩
     .exact ⟨y,.inr rfl,e⟩
    .rintro ⟨b,hb|hb,e⟩
     .exact .inl ⟨b,hb,e⟩
     .exact .inr (hb ▸ e)
   repeat' (simp only [aa,seval,p0])
   rw [jx]
   (rw [aY];with_reducible refine cR (m:=_) ?_ ⟨i+1,pz,_,rfl,z,⟨rfl,by omega,BK,q0,m0⟩,bw⟩;omega)
  obtain ⟨x0,D2,xy⟩:=ig (l:=l) (i:=j) (by omega)
  repeat' (first|simp only [aa,seval,p0,Jv,zyL]|with_reducible refine U2 s kg Cu (by omega) D2 (λp hp=>?_)|with_reducible refine sc hp yE ?_)
  have hMM:=m0.lt
  have hM0:A0≠Mm:=by omega
  refine zxE (a:=x0) m0 (λ_=>rfl) skS Zf Wv (λh' m1 cg=>?_)
  have q1:=q0.bC cg hM0
  have s1:=Sl.Ip s (λ_ _ _ _ h=>h) m0 cg
  replace z:=z.aw.step cg (by omega)
  rw [aq h']
  have BK:∀ x,x∈x0::pz↔(∃ y∈c.body.take i,sk y x)\/x∈l.take (j+1):=by
   intro x
   rw [dg,tE,od,xy,ju]
   simp only [Option.toList_some,ek]
   constructor
   .rintro (e|e|e)
    .exact .inr (.inr e)
    .exact .inl e
    .exact .inr (.inl e)
   .rintro (e|e|e)
    .exact .inr (.inl e)
    .exact .inr (.inr e)
    .exact .inl e
  clear q0 m0 s
  repeat' (simp only [aa,seval,p0])
  rw [vA]
  (rw [fI];with_reducible refine cR (m:=_) ?_ ⟨j+1,x0::pz,_,rfl,z,⟨rfl,by omega,BK,q1,m1,s1⟩,bw⟩;omega)
 rw [iK (by omega)] at xl
 repeat' (simp only [aa,seval,p0,q0.lay,↓zqO,dJ,dt])
 refine zrj c.head _ _ (λw l h' x s QO hm=>?_)
 (replace z:=z.ao x;replace q0:=q0.over x;replace m0:=m0.over x;rw [aq h'])
 have ub:∀ (h:Heap) (K:aL),aK (some w) h K=K w h:=λ_ _=>rfl
 have rS:=λ(hh:Heap)=>s.bP kg hh
 repeat' (simp only [aa,seval,p0,rS])
 obtain ⟨I3,rQ⟩:∃ I:Nat->Env->Heap->Prop,I=(λn e h'=>∃ (j:Nat) (h1:Heap),h'=h1.lay [] h1.low/\Ext h h1/\(n=l.length - j/\j<=l.length/\(∀ x∈l.take j,x∈met)/\ea Value.string h1 Mm met/\Sl aF.str h1 w l)/\∃ J:Nat->ai,e=(jr J 0 3 (.map (some Mm)::jr J 4 30 (w::.int .i64 l.length::.int .i64 j::jr J 37 12 ([]))))):=⟨_,rfl⟩
 refine dV I3 _ (by rw [rQ];exact ⟨0,_,rfl,z,⟨rfl,by omega,by simp,m0,s⟩,bw⟩) ?_
 intro n e h' aT
 rw [rQ] at aT
 obtain ⟨j,cK,rfl,z,hinv,J,rfl⟩:=aT
 clear m0 s
 obtain ⟨rfl,hj,aD,m0,s⟩:=hinv
 have vA:=fe j (by omega)
 simp only [aa,seval,p0]
 refine b9 (λeM=>?_) (λeM=>?_)
 rotate_left
 .rw [iK (by omega)] at aD
  repeat' (simp only [aa,seval,p0])
  exact kh (λx hx=>(xl x).1 (aD x ((hm x).2 hx))) _ z.aw
 obtain ⟨x0,D2,xy⟩:=ig (l:=l) (i:=j) (by omega)
 repeat' (first|simp only [aa,seval,p0,JL]|with_reducible refine U2 s kg Cu (by omega) D2 (λp hp=>?_)|with_reducible refine sc hp yE ?_)
 refine zsJ (a:=x0) m0 (λ_=>rfl) Zf Wv zxN (λaT=>?_) (λaT=>?_)
 all_goals
  repeat' (first|simp only [aa,seval,p0,gy,il,gv,eA,zAE]|((with_reducible apply cn);(· rfl)))
 .rw [vA]
  refine Es z.aw (λH z hO hI=>?_)
  (rw [rQ];with_reducible refine cR (m:=_) ?_ ⟨j+1,_,rfl,z,⟨rfl,by omega,uI (i:=j) (P:=λx:bf=>x∈met) xy aD aT,m0.hold hO,s.mono hI⟩,bw⟩;omega)
 .exact jX (λhh=>aT ((xl x0).2 (hh x0 ((hm x0).1 (fV xy))))) _ z.aw
theorem zzs (c:ay) (v:ai) (h:Heap) (cY:bj 1 h) (hl:Sl aF.atom h v c.body) (hn:c.body.length<=1000) (K:aL) (kh:sF c->∀ h',Ext h h'->K (.bool true) h') (jX:¬ sF c->∀ h',Ext h h'->K (.bool false) h'):Ok prog aH ov 42 [.agg ⟨c.head.cells++[v]⟩] h K:=by
 rw [aq h]
 have z:=Ext.refl h
 have cu:∀ (h:Heap) (K:aL),aK (some v) h K=K v h:=λ_ _=>rfl
 refine Ok.aC 19 (bH VA) ?_
 repeat' (simp only [aa,seval,AE,↓zqO,dJ,dt])
 refine zrb c.head _ (cY.lay _ _) _ (λh' x=>?_)
 have q0:=ak.top (i:=0) x rfl
 (replace z:=z.ao x;rw [aq h'])
 obtain ⟨A0,gO⟩:∃ A0,A0=h.size+0:=⟨_,rfl⟩
 rw [<- gO] at q0
 rw [<- gO]
 cases hb:jC c.head
 rotate_left
 .repeat' (first|simp only [aa,seval,AE]|((with_reducible apply cn);(· rfl)))
  exact jX (λx=>by unfold jC at hb;simp [x.head] at hb) _ z.aw
 have hhd:bT c.head:=by unfold jC at hb;simpa using hb
 repeat' (first|simp only [aa,seval,AE,q0.lay,zm4,cu]|((with_reducible apply cn);(· rfl)))
 refine zhU c.body v _ jC _ ((hl.mono z.inc).lay _ _) hn (λa hc K' xe hK=>by rw [vL];exact zrb a hc (((cY.ext z).lay _ _).ext xe) K' hK) _ (λh' x=>?_)
 (replace z:=z.ao x;replace q0:=q0.over x;rw [aq h'])
 cases tb:c.body.any jC
 rotate_left
 .repeat' (first|simp only [aa,seval,AE]|((with_reducible apply cn);(· rfl)))
  refine jX (λx=>?_) _ z.aw
  obtain ⟨t,ht,jg⟩:=Dl.1 tb
  unfold jC at jg
  simp [x.body t ht] at jg
 have fO:∀ b∈c.body,bT b:=λb hm=>by
  have:=Kc.1 tb b hm
  unfold jC at this
  simpa using this
 repeat' (first|simp only [aa,seval,AE,q0.lay,↓znc]|((with_reducible apply cn);(· rfl)))
 refine zsZ c v _ ((hl.mono z.inc).lay _ _) hn _ (λhr h' x=>?_) (λhr h' x=>?_)
 ·(replace z:=z.ao x;( replace q0:=q0.over x );rw [aq h'])
  repeat' (simp only [aa,seval,AE])
  exact kh ⟨hhd,fO,hr⟩ _ z.aw
 ·(replace z:=z.ao x;( replace q0:=q0.over x );rw [aq h'])
  repeat' (simp only [aa,seval,AE])
  exact jX (λx=>hr x.Cr) _ z.aw
theorem zzr (cl:List ay) (facts:aU) (v u:ai) (h:Heap) (cY:bj 1 h) (hl:Sl aF.clause h v cl) (hf:Sl aF.atom h u facts) (hn:cl.length<=1000) (nh:∀ c∈cl,c.body.length<=1000) (kx:facts.length<=1000) (K:aL) (kh:sE cl facts->∀ h',Ext h h'->K (.bool true) h') (jX:¬ sE cl facts->∀ h',Ext h h'->K (.bool false) h'):Ok prog aH ov 24 [v,u] h K:=by
 rw [aq h]
 have z:=Ext.refl h
 have dG:=λ(hh:Heap)=>hl.bP iv hh
 have yZ:=λ(hh:Heap)=>hf.bP cF hh
 refine Ok.aC 27 (bH Vn) ?_
 simp only [aa,seval,rP,dG]
 obtain ⟨I1,aY⟩:∃ I:Nat->Env->Heap->Prop,I=(λn e h'=>∃ (i:Nat) (h1:Heap),h'=h1.lay [] h1.low/\Ext h h1/\(n=cl.length - i/\i<=cl.length/\(∀ c∈cl.take i,sF c))/\∃ J:Nat->ai,e=(v::u::jr J 2 7 (v::.int .i64 cl.length::.int .i64 i::jr J 12 17 ([])))):=⟨_,rfl⟩
 refine dV I1 _ (by rw [aY];exact ⟨0,_,rfl,z,⟨rfl,by omega,by simp⟩,bw⟩) ?_
 intro n e h' aT
 rw [aY] at aT
 obtain ⟨i,bW,rfl,z,hinv,J,rfl⟩:=aT
 obtain ⟨rfl,hi,aD⟩:=hinv
 have hw:=fe i (by omega)
 simp only [aa,seval,rP]
 refine b9 (λaW=>?_) (λaW=>?_)
 .obtain ⟨r,hr,cv⟩:=ig (l:=cl) (i:=i) (by omega)
  repeat' (first|simp only [aa,seval,rP]|with_reducible refine EW (hl.mono z.inc) iv jo (by omega) hr (λp bd fO hp=>?_)|with_reducible refine HX hp qJ jo ?_)
  have Gy:=zzy (a:=r.head) fO.one
  repeat' (simp only [aa,seval,rP,gy,gv,eA,pC,zzi,Gy,↓znc])
  refine zzs r _ _ ((cY.ext z).lay _ _) (Sl.lay (by assumption) _ _) (nh r (fV cv)) _ (λho h' x=>?_) (λho h' x=>?_)
  ·(replace z:=z.ao x;rw [aq h'])
   repeat' (first|simp only [aa,seval,rP]|((with_reducible apply cn);(· rfl)))
   rw [hw]
   (rw [aY];with_reducible refine cR (m:=_) ?_ ⟨i+1,_,rfl,z,⟨rfl,by omega,uI (i:=i) (P:=sF) cv aD ho⟩,bw⟩;omega)
  ·(replace z:=z.ao x;rw [aq h'])
   repeat' (first|simp only [aa,seval,rP]|((with_reducible apply cn);(· rfl)))
   exact jX (λx=>ho (x.clauses r (fV cv))) _ z.aw
 rw [iK (by omega)] at aD
 repeat' (simp only [aa,seval,rP,yZ])
 obtain ⟨I2,fI⟩:∃ I:Nat->Env->Heap->Prop,I=(λn e h'=>∃ (k:Nat) (h1:Heap),h'=h1.lay [] h1.low/\Ext h h1/\(n=facts.length - k/\k<=facts.length/\(∀ a∈facts.take k,ke a))/\∃ J:Nat->ai,e=(v::u::jr J 2 17 (u::.int .i64 facts.length::.int .i64 k::jr J 22 7 ([])))):=⟨_,rfl⟩
 refine dV I2 _ (by rw [fI];exact ⟨0,_,rfl,z,⟨rfl,by omega,by simp⟩,bw⟩) ?_
 intro n e h' aT
 rw [fI] at aT
 obtain ⟨k,bW,rfl,z,hinv,J,rfl⟩:=aT
 obtain ⟨rfl,hk1,ly⟩:=hinv
 have xx:=fe k (by omega)
 simp only [aa,seval,rP]
 refine b9 (λeM=>?_) (λeM=>?_)
 rotate_left
 .rw [iK (by omega)] at ly
  repeat' (simp only [aa,seval,rP])
  exact kh ⟨aD,ly⟩ _ z.aw
 obtain ⟨y,hy,D3⟩:=ig (l:=facts) (i:=k) (by omega)
 repeat' (first|simp only [aa,seval,rP,gy,gv,eA,lJ,iB,zrz,zq8,zrm,↓eH,dJ,dt]|with_reducible refine uQ (hf.mono z.inc) cF cw (by omega) hy (λp hp=>?_)|with_reducible refine rq hp iM cw ?_)
 refine zw3 y _ ((cY.ext z).lay _ _) _ (λrp h' x=>?_) (λrp h' x=>?_)
 ·(replace z:=z.ao x;rw [aq h'])
  repeat' (first|simp only [aa,seval,rP]|((with_reducible apply cn);(· rfl)))
  rw [xx]
  (rw [fI];with_reducible refine cR (m:=_) ?_ ⟨k+1,_,rfl,z,⟨rfl,by omega,uI (i:=k) (P:=ke) D3 ly rp⟩,bw⟩;omega)
 ·(replace z:=z.ao x;rw [aq h'])
  repeat' (first|simp only [aa,seval,rP]|((with_reducible apply cn);(· rfl)))
  exact jX (λx=>rp (x.facts y (fV D3))) _ z.aw
end Go.Proofs.YtnkmeidmdaidhaaGreatDoor
