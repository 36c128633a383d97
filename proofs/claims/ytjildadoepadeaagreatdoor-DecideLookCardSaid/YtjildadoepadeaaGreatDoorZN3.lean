/- Walks: an atom read from bytes. Written out by fill2.py. No condition. -/
import Derived.Test.YtjildadoepadeaaGreatDoorZN2
import Derived.Test.YtjildadoepadeaaGreatDoorG31
set_option linter.unusedSimpArgs false
set_option linter.unusedVariables false
namespace Go.Proofs.YtjildadoepadeaaGreatDoor
open Go.Am Tryz
set_option maxRecDepth 100000
set_option maxHeartbeats 0
theorem zqw (s:aA) (hs:s.size<=100000) (st:Option Nat) (C:Nat) (h hc:Heap) (z:Ext h hc) (hC:h.size<=C) (q:ck 279 hc C s st) (K:aF)
 (hk:∀ h',Ext h h'->Sm C hc h'->ck 279 h' C s ((st.bind (c7 s)).map (·.2))->K (.int .u32 (((st.bind (c7 s)).map (·.1)).getD 0:Nat)) h'):Ok prog az ov 246 [.pointer (some ⟨C,0,none⟩)] hc K :=
 SS s hs st C h hc z hC q K (λn o2 e h' z s q=>by have:=hk h' z s;rw [e] at this;exact this q) (λe h' z s q=>by have:=hk h' z s;rw [e] at this;exact this q)
theorem NQ (s:aA) (hs:s.size<=100000) (st:Option Nat) (C:Nat) (h hc:Heap) (z:Ext h hc) (hC:h.size<=C) (q:ck 279 hc C s st) (K:aF)
 (hk:∀ h',Ext h h'->Sm C hc h'->ck 279 h' C s ((st.bind (eJ s)).map (·.2))->K (.string (((st.bind (eJ s)).map (·.1)).getD ⟨#[]⟩)) h'):Ok prog az ov 245 [.pointer (some ⟨C,0,none⟩)] hc K :=
 zuj s hs st C h hc z hC q K (λn o2 e h' z s q=>by have:=hk h' z s;rw [e] at this;exact this q) (λe h' z s q=>by have:=hk h' z s;rw [e] at this;exact this q)
theorem zt8 (s:aA) (hs:s.size<=100000) (st:Option Nat) (C:Nat) (h hc:Heap) (z:Ext h hc) (hC:h.size<=C) (q:ck 279 hc C s st) (K:aF)
 (hk:∀ h',Ext h h'->Sm C hc h'->ck 279 h' C s ((st.bind (gH s)).map (·.2))->K (.bool (((st.bind (gH s)).map (·.1)).getD false)) h'):Ok prog az ov 247 [.pointer (some ⟨C,0,none⟩)] hc K :=
 zt7 s hs st C h hc z hC q K (λn o2 e h' z s q=>by have:=hk h' z s;rw [e] at this;exact this q) (λe h' z s q=>by have:=hk h' z s;rw [e] at this;exact this q)
theorem vS (a:Int):dX prog (Next.value <$> convert 144 3 (.int .u32 a))=some (Next.value (.int .i64 (IntKind.i64.wrap a))):=by rfl
theorem y4:mJ az 41 []=some aw.val:=by kernel_rfl
theorem Yd (s:aA) (hs:s.size<=100000) (o:Nat) (C:Nat) (h hc:Heap) (bJ:aI 1 h) (z:Ext h hc) (hC:h.size<=C) (q:ck 279 hc C s (some o)) (K:aF)
 (ea:∀ (a:ae) (o2:Nat),ie s o=some (a,o2)->∀ h',Ext h h'->Sm C hc h'->ck 279 h' C s (some o2)->K a.val h')
 (dZ:ie s o=none->∀ h',Ext h h'->Sm C hc h'->ck 279 h' C s none->K aw.val h'):Ok prog az ov 211 [.pointer (some ⟨C,0,none⟩)] hc K:=by
 have cg:=Sm.refl C hc
 have Vm:=q.lt
 have vG:=z.size
 rw [ak hc]
 refine Ok.au 78 (br B6) ?_
 simp only [aa,seval,bC]
 refine ko (λh' x hq=>?_)
 have qA:=hq 0 _ rfl
 clear hq
 (replace z:=z.aj x;replace q:=q.over x;replace cg:=cg.over x;rw [ak h'])
 obtain ⟨A,hA⟩:∃ A,A=hc.size+0:=⟨_,rfl⟩
 rw [<- hA] at qA
 rw [<- hA]
 replace qA:Holds h' A (.row aw.cells 41 false):=qA
 with_reducible first|refine hH (by simp only [bC]) z.ao ?_
 repeat' (simp only [aa,seval,bC])
 have ft:A≠C:=by omega
 have WQ:=z.size
 have ni:h.size<=A:=by omega
 refine NQ s hs (some o) C h _ z.ao hC (q.lay _ _) _ (λh2 z2 s2 q2=>?_)
 refine R2 (by kernel_rfl) z2.low (by have:=s2.size;rw [cF] at this ⊢;simpa using this) ?_
 replace cg:=cg.iV s2
 replace qA:=qA.lL s2 ft
 clear q z
 have z:=z2
 have q:=q2
 clear z2 s2 q2
 obtain ⟨r1,tU⟩:∃ r1,r1=eJ s o:=⟨_,rfl⟩
 rw [cM,<- tU] at q
 rw [cM,<- tU]
 rw [ak h2]
 obtain ⟨Ai,yl⟩:∃ Ai,Ai=r1.map (·.2):=⟨_,rfl⟩
 obtain ⟨x1,Hk⟩:∃ x1,x1=(r1.map (·.1)).getD ⟨#[]⟩:=⟨_,rfl⟩
 rw [<- yl] at q
 rw [<- Hk]
 repeat' (simp only [aa,seval,bC])
 refine NQ s hs _ C h _ z.ao hC (q.lay _ _) _ (λh3 z2 s2 q2=>?_)
 refine R2 (by kernel_rfl) z2.low (by have:=s2.size;rw [cF] at this ⊢;simpa using this) ?_
 replace cg:=cg.iV s2
 replace qA:=qA.lL s2 ft
 clear q z
 have z:=z2
 have q:=q2
 clear z2 s2 q2
 have WQ:=z.size
 obtain ⟨r2,fj⟩:∃ r2,r2=Ai.bind (eJ s):=⟨_,rfl⟩
 rw [<- fj] at q
 rw [<- fj]
 rw [ak h3]
 obtain ⟨yJ,ym⟩:∃ yJ,yJ=r2.map (·.2):=⟨_,rfl⟩
 obtain ⟨x2,Hl⟩:∃ x2,x2=(r2.map (·.1)).getD ⟨#[]⟩:=⟨_,rfl⟩
 rw [<- ym] at q
 rw [<- Hl]
 repeat' (simp only [aa,seval,bC])
 refine dD (o:=0) qA mD rfl rfl (by show 0+1<=11;decide) rfl (λh4 dH c=>?_)
 replace dH:Holds h4 A (.row ({ aw with says:=x1 }:ae).cells 41 false):=dH
 refine rY (A:=A) (by kernel_rfl) (by rw [cF];have:=z.size;omega) (by omega) (by simpa only [dy,cF,cU,jb,iN] using c) ?_
 replace cg:=cg.fresh c (by omega)
 replace q:=q.bG c (Ne.symm ft)
 replace z:=(z.mO [] (h3.size+0) (by have:=z.size;omega)).step c ni
 clear qA
 have qA:=dH
 clear dH
 rw [ak h4]
 repeat' (simp only [aa,seval,bC])
 refine dD (o:=1) qA mD rfl rfl (by show 1+1<=11;decide) rfl (λh5 dH c=>?_)
 replace dH:Holds h5 A (.row ({ aw with says:=x1,pred:=x2 }:ae).cells 41 false):=dH
 refine rY (A:=A) (by kernel_rfl) (by rw [cF];have:=z.size;omega) (by omega) (by simpa only [dy,cF,cU,jb,iN] using c) ?_
 replace cg:=cg.fresh c (by omega)
 replace q:=q.bG c (Ne.symm ft)
 replace z:=(z.mO [] (h4.size+0) (by have:=z.size;omega)).step c ni
 clear qA
 have qA:=dH
 clear dH
 rw [ak h5]
 simp only [gf,seval,bC]
 ((with_reducible refine ⟨z.eD.lay _ _,?_⟩);(intro _ h' zz x _);(simp only [dy,cU] at x);replace q:=q.over x;replace cg:=cg.over x;replace qA:=qA.over x;(replace z:=zz);(clear zz);rw [ak h'])
 repeat' (simp only [aa,seval,bC])
 refine zqw s hs _ C h _ z.ao hC (q.lay _ _) _ (λh6 z2 s2 q2=>?_)
 replace cg:=cg.iV s2
 replace qA:=qA.lL s2 ft
 clear q z
 have z:=z2
 have q:=q2
 clear z2 s2 q2
 have WT:=z.size
 obtain ⟨r3,Aa⟩:∃ r3,r3=yJ.bind (c7 s):=⟨_,rfl⟩
 rw [<- Aa] at q
 rw [<- Aa]
 rw [ak h6]
 rcases r3 with _|⟨k,o3⟩
 .have hU:ie s o=none:=zpC (by rw [<- tU,<- yl,<- fj,<- ym];exact Aa.symm)
  replace q:ck 279 h6 C s none:=q
  show aah _ _ _ _ _ _ _ _ (.int .u32 ((0:Nat):Int)) _
  repeat' (simp only [aa,seval,bC])
  refine H8 ?_
  simp only [aa,seval,bC]
  rw [lB rfl rfl rfl (vS _) rfl,wrap_i64 (by omega) (by omega)]
  simp only [aa,seval,bC]
  rw [lB rfl rfl rfl (vS _) rfl,wrap_i64 (by omega) (by omega)]
  simp only [aa,seval,bC]
  refine dD (o:=2) qA ur rfl rfl (by show 2+1<=11;decide) rfl (λh8 dH c=>?_)
  have qB:=q.bG c (Ne.symm ft)
  replace cg:=cg.fresh c (by omega)
  replace z:=z.ao.step c ni
  clear qA q
  obtain ⟨o8,yb,_,qq⟩:=qB
  replace qq:Holds h8 C (.row [.string s,.int .i64 o8,.bool true] 279 false):=qq
  rw [ak h8]
  repeat' (simp only [aa,seval,bC,qq.lay])
  refine dD (o:=2) qq lM rfl rfl (by simp) rfl (λh9 fo c=>?_)
  replace fo:Holds h9 C (.row [.string s,.int .i64 o8,.bool true] 279 false):=fo
  have fm:=dH.bG c ft
  replace cg:=cg.cj c
  replace z:=z.ao.step c hC
  clear qq dH
  rw [ak h9]
  repeat' (simp only [aa,seval,bC,fo.lay,y4,dx])
  refine dD (o:=0) fm dv (e9 _) rfl (by show 0+11<=11;decide) rfl (λfO jz c=>?_)
  replace jz:Holds fO A (.row aw.cells 41 false):=jz
  have qC:=fo.bG c (Ne.symm ft)
  replace cg:=cg.fresh c (by omega)
  replace z:=z.ao.step c ni
  clear fm fo
  rw [ak fO]
  repeat' (simp only [aa,seval,bC,jz.lay,↓eZ,dO,dx])
  exact dZ hU _ z.ao (cg.lay _ _) ⟨o8,yb,nofun,qC.on _ _⟩
 .skip
  have tM:k<=4294967295:=by
   rcases yJ with _|p2
   .cases Aa
   .exact zxb Aa.symm
  have ma:=zpD tU yl fj ym Aa Hk Hl
  obtain ⟨a0,xp⟩:∃ a0:ae,a0={ aw with says:=x1,pred:=x2 }:=⟨_,rfl⟩
  rw [<- xp] at ma qA
  replace q:ck 279 h6 C s (some o3):=q
  show aah _ _ _ _ _ _ _ _ (.int .u32 ((k:Nat):Int)) _
  simp only [aa,seval,bC]
  refine bp (λnz=>?_) (λnz=>?_)
  .have hU:ie s o=none:=by rw [ma,ay (by omega)]
   obtain ⟨o9,Wm,_,qq⟩:=q
   replace qq:Holds h6 C (.row [.string s,.int .i64 o9,.bool false] 279 false):=qq
   repeat' (simp only [aa,seval,bC])
   refine dD (o:=2) qq lM rfl rfl (by simp) rfl (λh7 fo c=>?_)
   have q:ck 279 h7 C s none:=⟨o9,Wm,nofun,fo⟩
   replace qA:=qA.bG c ft
   replace cg:=cg.cj c
   replace z:=z.ao.step c hC
   clear qq
   rw [ak h7]
   repeat' (simp only [aa,seval,bC])
   refine H8 ?_
   simp only [aa,seval,bC]
   rw [lB rfl rfl rfl (vS _) rfl,wrap_i64 (by omega) (by omega)]
   simp only [aa,seval,bC]
   refine bp (λ_=>?_) (λhx=>absurd hx (by omega))
   obtain ⟨Ag,nC,_,qq⟩:=q
   replace qq:Holds h7 C (.row [.string s,.int .i64 Ag,.bool true] 279 false):=qq
   have q:ck 279 h7 C s none:=⟨Ag,nC,nofun,qq⟩
   repeat' (first|simp only [aa,seval,bC,qq.lay]|((with_reducible apply bK);(· rfl)))
   clear qq
   rw [lB rfl rfl rfl (vS _) rfl,wrap_i64 (by omega) (by omega)]
   simp only [aa,seval,bC]
   refine dD (o:=2) qA ur rfl rfl (by show 2+1<=11;decide) rfl (λh8 dH c=>?_)
   have qB:=q.bG c (Ne.symm ft)
   replace cg:=cg.fresh c (by omega)
   replace z:=z.ao.step c ni
   clear qA q
   obtain ⟨o8,yb,_,qq⟩:=qB
   replace qq:Holds h8 C (.row [.string s,.int .i64 o8,.bool true] 279 false):=qq
   rw [ak h8]
   repeat' (simp only [aa,seval,bC,qq.lay])
   refine dD (o:=2) qq lM rfl rfl (by simp) rfl (λh9 fo c=>?_)
   replace fo:Holds h9 C (.row [.string s,.int .i64 o8,.bool true] 279 false):=fo
   have fm:=dH.bG c ft
   replace cg:=cg.cj c
   replace z:=z.ao.step c hC
   clear qq dH
   rw [ak h9]
   repeat' (simp only [aa,seval,bC,fo.lay,y4,dx])
   refine dD (o:=0) fm dv (e9 _) rfl (by show 0+11<=11;decide) rfl (λfO jz c=>?_)
   replace jz:Holds fO A (.row aw.cells 41 false):=jz
   have qC:=fo.bG c (Ne.symm ft)
   replace cg:=cg.fresh c (by omega)
   replace z:=z.ao.step c ni
   clear fm fo
   rw [ak fO]
   repeat' (simp only [aa,seval,bC,jz.lay,↓eZ,dO,dx])
   exact dZ hU _ z.ao (cg.lay _ _) ⟨o8,yb,nofun,qC.on _ _⟩

  .have Lo:k<=4:=by omega
   rw [aC Lo] at ma
   repeat' (simp only [aa,seval,bC])
   obtain ⟨I1,aU⟩:∃ I:Nat->Env->Heap->Prop,I=(λn e h'=>∃ (i:Nat) (a:ae) (h1:Heap),h'=h1.lay [] h1.low/\Ext h h1/\(n=k - i/\i<=k/\ck 279 h1 C s ((gC s a0 o3 i).map (·.2))/\(∀ x,gC s a0 o3 i=some x->x.1=a)/\Sm C hc h1/\Holds h1 A (.row a.cells 41 false))/\∃ J:Nat->ai,e=(.pointer (some ⟨C,0,none⟩)::J 1::.pointer (some ⟨A,0,none⟩)::.int .u32 k::.int .i64 i::jr J 5 74 ([]))):=⟨_,rfl⟩
   refine dK I1 _ (by rw [aU];exact ⟨0,a0,_,rfl,z,⟨rfl,by omega,q,λx hx=>by cases hx;rfl,cg,qA⟩,bx⟩) ?_
   intro n e h' aR
   rw [aU] at aR
   obtain ⟨i,a,b8,rfl,z,hinv,J,rfl⟩:=aR
   clear q cg qA
   obtain ⟨rfl,hi,q,qL,cg,qA⟩:=hinv
   have j9:=ec i (by omega)
   have WS:=z.size
   simp only [aa,seval,bC]
   rw [lB rfl rfl rfl (vS _) rfl,wrap_i64 (by omega) (by omega)]
   simp only [aa,seval,bC]
   rcases dI:gC s a0 o3 i with _|⟨a',o4⟩
   .rw [dI] at q
    have hU:ie s o=none:=by
     have:=SC dI (k - i)
     rw [show i+(k - i)=k by omega] at this
     rw [ma,this]
     rfl
    obtain ⟨Ag,nC,_,qq⟩:=q
    replace qq:Holds b8 C (.row [.string s,.int .i64 Ag,.bool true] 279 false):=qq
    have q:ck 279 b8 C s none:=⟨Ag,nC,nofun,qq⟩
    refine bp (λaS=>?_) (λaS=>?_)
    .repeat' (first|simp only [aa,seval,bC,qq.lay]|((with_reducible apply bK);(· rfl)))
     clear qq
     rw [lB rfl rfl rfl (vS _) rfl,wrap_i64 (by omega) (by omega)]
     simp only [aa,seval,bC]
     refine dD (o:=2) qA ur rfl rfl (by show 2+1<=11;decide) rfl (λh8 dH c=>?_)
     have qB:=q.bG c (Ne.symm ft)
     replace cg:=cg.fresh c (by omega)
     replace z:=z.ao.step c ni
     clear qA q
     obtain ⟨o8,yb,_,qq⟩:=qB
     replace qq:Holds h8 C (.row [.string s,.int .i64 o8,.bool true] 279 false):=qq
     rw [ak h8]
     repeat' (simp only [aa,seval,bC,qq.lay])
     refine dD (o:=2) qq lM rfl rfl (by simp) rfl (λh9 fo c=>?_)
     replace fo:Holds h9 C (.row [.string s,.int .i64 o8,.bool true] 279 false):=fo
     have fm:=dH.bG c ft
     replace cg:=cg.cj c
     replace z:=z.ao.step c hC
     clear qq dH
     rw [ak h9]
     repeat' (simp only [aa,seval,bC,fo.lay,y4,dx])
     refine dD (o:=0) fm dv (e9 _) rfl (by show 0+11<=11;decide) rfl (λfO jz c=>?_)
     replace jz:Holds fO A (.row aw.cells 41 false):=jz
     have qC:=fo.bG c (Ne.symm ft)
     replace cg:=cg.fresh c (by omega)
     replace z:=z.ao.step c ni
     clear fm fo
     rw [ak fO]
     repeat' (simp only [aa,seval,bC,jz.lay,↓eZ,dO,dx])
     exact dZ hU _ z.ao (cg.lay _ _) ⟨o8,yb,nofun,qC.on _ _⟩
    .repeat' ( simp only [aa,seval,bC])
     clear qq
     rw [lB rfl rfl rfl (vS _) rfl,wrap_i64 (by omega) (by omega)]
     simp only [aa,seval,bC]
     refine dD (o:=2) qA ur rfl rfl (by show 2+1<=11;decide) rfl (λh8 dH c=>?_)
     have qB:=q.bG c (Ne.symm ft)
     replace cg:=cg.fresh c (by omega)
     replace z:=z.ao.step c ni
     clear qA q
     obtain ⟨o8,yb,_,qq⟩:=qB
     replace qq:Holds h8 C (.row [.string s,.int .i64 o8,.bool true] 279 false):=qq
     rw [ak h8]
     repeat' (simp only [aa,seval,bC,qq.lay])
     refine dD (o:=2) qq lM rfl rfl (by simp) rfl (λh9 fo c=>?_)
     replace fo:Holds h9 C (.row [.string s,.int .i64 o8,.bool true] 279 false):=fo
     have fm:=dH.bG c ft
     replace cg:=cg.cj c
     replace z:=z.ao.step c hC
     clear qq dH
     rw [ak h9]
     repeat' (simp only [aa,seval,bC,fo.lay,y4,dx])
     refine dD (o:=0) fm dv (e9 _) rfl (by show 0+11<=11;decide) rfl (λfO jz c=>?_)
     replace jz:Holds fO A (.row aw.cells 41 false):=jz
     have qC:=fo.bG c (Ne.symm ft)
     replace cg:=cg.fresh c (by omega)
     replace z:=z.ao.step c ni
     clear fm fo
     rw [ak fO]
     repeat' (simp only [aa,seval,bC,jz.lay,↓eZ,dO,dx])
     exact dZ hU _ z.ao (cg.lay _ _) ⟨o8,yb,nofun,qC.on _ _⟩
   .obtain rfl:a=a':=(qL _ dI).symm
    rw [dI] at q
    replace q:ck 279 b8 C s (some o4):=q
    obtain ⟨Ag,nC,K4,qq⟩:=q
    obtain rfl:=K4 o4 rfl
    replace qq:Holds b8 C (.row [.string s,.int .i64 o4,.bool false] 279 false):=qq
    have q:ck 279 b8 C s (some o4):=⟨o4,nC,λ_ e=>(Option.some.inj e).symm,qq⟩
    refine bp (λaS=>?_) (λaS=>?_)
    .simp only [aa,seval,bC,qq.lay]
     (with_reducible apply bK);(· rfl)
     repeat' (simp only [aa,seval,bC])
     clear qq
     refine zt8 s hs _ C h _ z.ao hC (q.lay _ _) _ (λh7 z2 s2 q2=>?_)
     replace cg:=cg.iV s2
     replace qA:=qA.lL s2 ft
     clear q z
     have z:=z2
     have q:=q2
     clear z2 s2 q2
     have WU:=z.size
     rw [cM] at q
     rw [cM]
     obtain ⟨bv,xy⟩:∃ bv,bv=((gH s o4).map (·.1)).getD false:=⟨_,rfl⟩
     rw [<- xy]
     obtain ⟨Mz,yn⟩:∃ Mz,Mz=(gH s o4).map (·.2):=⟨_,rfl⟩
     rw [<- yn] at q
     rw [ak h7]
     have q7:(0:Int)<=(i:Int)/\(i:Int) < 4:=by omega
     repeat' (simp only [aa,seval,bC,q7])
     refine dD (o:=3+i*2+0) qA lM rfl rfl (by show _<=11;omega) rfl (λh8 dH c=>?_)
     replace dH:Holds h8 A (.row (an a.cells (3+i*2+0) [.bool bv]) 41 false):=dH
     rw [zpO a (by omega)] at dH
     replace q:=q.bG c (Ne.symm ft)
     replace cg:=cg.fresh c (by omega)
     replace z:=z.ao.step c ni
     clear qA
     have qA:=dH
     clear dH
     rw [ak h8]
     repeat' (simp only [aa,seval,bC])
     refine NQ s hs _ C h _ z.ao hC (q.lay _ _) _ (λh9 z2 s2 q2=>?_)
     replace cg:=cg.iV s2
     replace qA:=qA.lL s2 ft
     clear q z
     have z:=z2
     have q:=q2
     clear z2 s2 q2
     have WV:=z.size
     obtain ⟨xv,Qs⟩:∃ xv,xv=((Mz.bind (eJ s)).map (·.1)).getD ⟨#[]⟩:=⟨_,rfl⟩
     rw [<- Qs]
     rw [ak h9]
     repeat' (simp only [aa,seval,bC,q7])
     refine dD (o:=3+i*2+1) qA mD rfl rfl (by show _<=11;omega) rfl (λfO dH c=>?_)
     replace dH:Holds fO A (.row (an (a.put i ⟨bv,(a.arg i).s⟩).cells (3+i*2+1) [.string xv]) 41 false):=dH
     rw [zpP a (by omega)] at dH
     replace q:=q.bG c (Ne.symm ft)
     replace cg:=cg.fresh c (by omega)
     replace z:=z.ao.step c ni
     clear qA
     have qA:=dH
     clear dH
     rw [ak fO]
     repeat' (simp only [aa,seval,bC])
     rw [j9]
     (rw [aU];(with_reducible refine db (m:=_) ?_ ⟨i+1,a.put i ⟨bv,xv⟩,_,rfl,z,⟨rfl,by omega,by rw [ztr dI,zvr,<- yn];exact q,λx hx=>by
      obtain ⟨y,hy,e⟩:=zrw dI hx
      rw [e,ztp hy,<- xy,<- yn,<- Qs],cg,qA⟩,bx⟩);omega)
    .obtain rfl:i=k:=by omega
     rw [dI] at ma
     simp only [cM] at ma
     simp only [aa,seval,bC]
     rw [lB rfl rfl rfl (vS _) rfl,wrap_i64 (by omega) (by omega)]
     simp only [aa,seval,bC]
     refine dD (o:=2) qA ur rfl rfl (by show 2+1<=11;decide) rfl (λh8 dH c=>?_)
     replace dH:Holds h8 A (.row ({ a with n:=i }:ae).cells 41 false):=dH
     replace qq:=qq.bG c (Ne.symm ft)
     replace cg:=cg.fresh c (by omega)
     replace z:=z.ao.step c ni
     clear qA q
     rw [ak h8]
     repeat' (simp only [aa,seval,bC,qq.lay,dH.lay,↓eZ,dO,dx])
     refine S6 { a with n:=i } _ ((bJ.ext z).lay _ _) _ (λhv h' x=>?_) (λhv cc h' KX x=>?_)
     ·(replace z:=z.aj x;( replace qq:=qq.over x );( replace cg:=cg.over x );( replace dH:=dH.over x );rw [ak h'])
      have hU:ie s o=some ({ a with n:=i },o4):=by rw [ma,aC hv]
      repeat' (simp only [aa,seval,bC,bne_self_eq_false])
      refine dD (o:=2) qq lM rfl rfl (by simp) rfl (λh9 fo c=>?_)
      replace fo:Holds h9 C (.row [.string s,.int .i64 o4,.bool false] 279 false):=fo
      have fm:=dH.bG c ft
      replace cg:=cg.cj c
      replace z:=z.ao.step c hC
      clear qq dH
      rw [ak h9]
      repeat' (simp only [aa,seval,bC,fo.lay,fm.lay,↓eZ,dO,dx])
      refine dD (o:=0) fm dv (e9 _) rfl (by show 0+11<=11;decide) rfl (λfO jz c=>?_)
      replace jz:Holds fO A (.row ({ a with n:=i }:ae).cells 41 false):=jz
      have qC:=fo.bG c (Ne.symm ft)
      replace cg:=cg.fresh c (by omega)
      replace z:=z.ao.step c ni
      clear fm fo
      rw [ak fO]
      repeat' (simp only [aa,seval,bC,jz.lay,↓eZ,dO,dx])
      exact ea _ _ hU _ z.ao (cg.lay _ _) ⟨o4,nC,λ_ e=>(Option.some.inj e).symm,qC.on _ _⟩
     ·(replace z:=z.aj x;( replace qq:=qq.over x );( replace cg:=cg.over x );( replace dH:=dH.over x );rw [ak h'])
      have hU:ie s o=none:=by rw [ma,ay hv]
      have oS:(cc != 0)=true:=by simpa using KX
      repeat' (simp only [aa,seval,bC,oS])
      refine dD (o:=2) qq lM rfl rfl (by simp) rfl (λh9 fo c=>?_)
      replace fo:Holds h9 C (.row [.string s,.int .i64 o4,.bool true] 279 false):=fo
      have fm:=dH.bG c ft
      replace cg:=cg.cj c
      replace z:=z.ao.step c hC
      clear qq dH
      rw [ak h9]
      repeat' (simp only [aa,seval,bC,fo.lay,y4,dx])
      refine dD (o:=0) fm dv (e9 _) rfl (by show 0+11<=11;decide) rfl (λfO jz c=>?_)
      replace jz:Holds fO A (.row aw.cells 41 false):=jz
      have qC:=fo.bG c (Ne.symm ft)
      replace cg:=cg.fresh c (by omega)
      replace z:=z.ao.step c ni
      clear fm fo
      rw [ak fO]
      repeat' (simp only [aa,seval,bC,jz.lay,↓eZ,dO,dx])
      exact dZ hU _ z.ao (cg.lay _ _) ⟨o4,nC,nofun,qC.on _ _⟩
end Go.Proofs.YtjildadoepadeaaGreatDoor
