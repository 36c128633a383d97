/- Walks: an atom read, requests read. Written out by fill2.py. No condition. -/
import Derived.Test.YtjildadoepadeaaGreatDoorZN3
set_option linter.unusedSimpArgs false
set_option linter.unusedVariables false
set_option maxRecDepth 100000
set_option maxHeartbeats 0
namespace Go.Proofs.YtjildadoepadeaaGreatDoor
open Go.Am Tryz
theorem zvL (s:aA):mJ az 277 [(0,.string s)]=some (.agg ⟨[.string s,.int .i64 0,.bool false]⟩):=by kernel_rfl
theorem zwZ (s:aA):mJ az 279 [(0,.agg ⟨[.string s,.int .i64 0,.bool false]⟩)]=some (.agg ⟨[.string s,.int .i64 0,.bool false]⟩):=by kernel_rfl
noncomputable def Rw:=PLift.up (by have c:=ztH tf 15 f159;simp only [codeOf,f159,zzo,qe,uo,aK,jC,dB,kf,jX,Nat.reduceAdd,true_implies,and_true,true_and] at c;exact c)
theorem PJ:type_of% Rw.down:=Rw.down
theorem UM (K:aF) (e:Env) (h:Heap):dq az f159 K .ret e h=aE (eQ az 41 (e.get 2) h) h (λx h'=>K (.tuple #[x,e.get 3,e.get 4]) h'):=by
 have hr:f159.results=#[.cell 2 41,.tmp 3,.tmp 4]:=rfl
 cases hl:eQ az 41 (e.get 2) h with
 |none=>simp [dq,jH,nO,aE,hl]
 |some x=>simp [dq,jH,nO,aE,hl]
theorem Zl (s:aA) (hs:s.size<=100000) (h:Heap) (bJ:aI 1 h) (K:aF)
 (ea:∀ (a:ae) (k:Nat),ie s 0=some (a,k)->∀ h',Ext h h'->K (.tuple #[a.val,.int .i64 k,.int .i64 0]) h')
 (dZ:ie s 0=none->∀ h',Ext h h'->K (.tuple #[aw.val,.int .i64 0,.int .i64 15]) h'):Ok prog az ov 159 [.string s] h K:=by
 rw [ak h]
 have z:=Ext.refl h
 have tZ:∀ (c:List ai) (h:Heap) (K:aF),aE (some (.agg ⟨c⟩)) h K=K (.agg ⟨c⟩) h:=λ_ _ _=>rfl
 refine Ok.au 23 (br tf) ?_
 repeat' (simp only [aa,seval,kZ,tZ,zvL,zwZ])
 refine Yd s hs 0 (h.size+1) h _ bJ z.ao (by omega) ⟨0,pN _,λ_ e=>(Option.some.inj e).symm,⟨by rw [cF];simp,by rw [iL];rfl⟩⟩ _ (λa o2 ha h' z2 s2 q2=>?_) (λha h' z2 s2 q2=>?_)
 all_goals
  have q0:Holds h' (h.size+0) (.row aw.cells 41 false):=Holds.sm (h:=h.lay _ _) ⟨by rw [cF];simp,by rw [iL];rfl⟩ s2 (by omega)
  clear z
  have z:=z2
  obtain ⟨C,hC⟩:∃ C,C=h.size+1:=⟨_,rfl⟩
  obtain ⟨B,hB⟩:∃ B,B=h.size+0:=⟨_,rfl⟩
  rw [<- hC] at q2 ⊢
  rw [<- hB] at q0 ⊢
  have PR:C≠B:=by omega
  have Ae:=z.size
  clear z2 s2
  obtain ⟨o5,ho5,VI,qq⟩:=q2
  rw [ak h']
 .obtain rfl:=VI o2 rfl
  replace qq:Holds h' C (.row [.string s,.int .i64 o2,.bool false] 279 false):=qq
  simp only [aa,seval,kZ]
  refine dD (o:=0) q0 dv (e9 _) rfl (by show 0+11<=11;decide) rfl (λfO cx c=>?_)
  replace cx:Holds fO B (.row a.cells 41 false):=cx
  replace qq:=qq.bG c PR
  replace z:=z.ao.step c (by omega)
  clear q0
  rw [ak fO]
  simp only [aa,seval,kZ,qq.lay]
  refine zvi (K:=(tf 15)) (by simp only [kZ]) (ps:=[(0,5),(5,6)]) (by kernel_rfl) z.ao ?_
  repeat' (simp only [aa,seval,kZ,Et,PJ,qq.lay,cx.lay,↓eZ,dO,dx])
  have Wr:=cx.lt
  refine zsY (o:=0) cx dv (e9 _) rfl (by show 0+11<=11;decide) rfl (λC0 du c js=>?_)
  replace du:Holds C0 B (.row a.cells 41 false):=du
  refine zrk (A:=B) (by rw [cF];have:=z.size;omega) (by omega) (by rw [cF];omega) (by simpa only [dy,cF,cU,jb,iN] using c) js ?_
  replace z:=(z.mO [] (fO.size+0) (by have:=z.size;omega)).step c (by omega)
  clear cx qq
  rw [ak C0]
  simp only [aa,seval,Et,PJ]
  refine ⟨by (simp only [s7,List.getD_cons_zero,List.getD_cons_succ,Bool.and_true,cY];(repeat' apply And.intro) <;> first|exact zw8 (by omega) (by omega)|exact zw7 (by omega)),?_⟩
  ((with_reducible refine ⟨z.eD.lay _ _,?_⟩);(intro _ h' zz x _);(simp only [dy,cU] at x);replace du:=du.over x;(replace z:=zz);(clear zz);rw [ak h'])
  simp only [aa,seval,kZ,UM,du.lay,↓eZ,dO,dx]
  exact ea _ _ ha _ z.ao
 .replace qq:Holds h' C (.row [.string s,.int .i64 o5,.bool true] 279 false):=qq
  simp only [aa,seval,kZ]
  refine dD (o:=0) q0 dv (e9 _) rfl (by show 0+11<=11;decide) rfl (λfO cx c=>?_)
  replace cx:Holds fO B (.row aw.cells 41 false):=cx
  replace qq:=qq.bG c PR
  replace z:=z.ao.step c (by omega)
  clear q0
  rw [ak fO]
  repeat' (simp only [aa,seval,kZ,qq.lay,y4,dx])
  refine dD (o:=0) cx dv (e9 _) rfl (by show 0+11<=11;decide) rfl (λC0 du c=>?_)
  replace du:Holds C0 B (.row aw.cells 41 false):=du
  replace z:=z.ao.step c (by omega)
  rw [ak C0]
  simp only [aa,seval,kZ,UM,du.lay,↓eZ,dO,dx]
  exact dZ ha _ z.ao
theorem zxk (s:aA) (o:Nat) (ho:o<=s.size):kn az 9 (.string s) none (some (.int .i64 o)) none=some (.string (s.extract 0 o)):=by
 unfold kn
 rw [zI]
 simp only [A8,fb,if_false,mQ,pH,cM]
 rw [aC (by omega)]
 simp
theorem NW (a:ae):a.val.cells.size=11:=rfl
theorem NZ (a:ae):a.cells.length=11:=rfl
theorem NU (a:ae):a.cells.all Am.one=true:=rfl
theorem NP (s:aA) (hs:s.size<=100000) (e:Int) (n C:Nat) (hn:n<=100000) (h hc:Heap) (z:Ext h hc) (hC:h.size<=C) (q:Holds hc C (.row [.string s,.int .i64 e] 154 false)) (K:aF)
 (ea:e=0->n<=s.size->∀ h',Ext h h'->Sm C hc h'->Holds h' C (.row [.string (s.extract n s.size),.int .i64 0] 154 false)->K (.string (s.extract 0 n)) h')
 (dZ:¬ (e=0/\n<=s.size)->∀ h' e',e'≠0->Ext h h'->Sm C hc h'->Holds h' C (.row [.string s,.int .i64 e'] 154 false)->K (.string ⟨#[]⟩) h'):Ok prog az ov 158 [.pointer (some ⟨C,0,none⟩),.int .i64 n] hc K:=by
 have cg:=Sm.refl C hc
 rw [ak hc]
 have b9:∀ (s:aA) (h:Heap) (K:aF),aE (some (.string s)) h K=K (.string s) h:=λ_ _ _=>rfl
 refine Ok.au 42 (br BK) ?_
 by_cases he:e=0
 .subst he
  by_cases hle:n<=s.size
  .have h1:=zxk s n hle
   have h2:=Ua s n hle
   simp only [aa,seval,m8,q.lay,b9]
   refine bp (λhx=>absurd hx (by omega)) (λ_=>?_)
   simp only [aa,seval,m8,q.lay,b9,bne_self_eq_false,h1,h2]
   refine dD (o:=0) q mD rfl rfl (by simp) rfl (λh9 q' c=>?_)
   replace q':Holds h9 C (.row [.string (s.extract n s.size),.int .i64 0] 154 false):=q'
   replace cg:=cg.cj c
   replace z:=z.cX c hC (by omega)
   rw [ak h9]
   simp only [aa,seval,m8]
   exact ea rfl hle _ z.ao (cg.lay _ _) (q'.on _ _)
  .simp only [aa,seval,m8,q.lay,b9]
   refine bp (λ_=>?_) (λhx=>absurd hx (by omega))
   simp only [aa,seval,m8]
   refine dD (o:=1) q uv rfl rfl (by simp) rfl (λh9 q' c=>?_)
   replace q':Holds h9 C (.row [.string s,.int .i64 15] 154 false):=q'
   replace cg:=cg.cj c
   replace z:=z.cX c hC (by omega)
   rw [ak h9]
   simp only [aa,seval,m8,q'.lay,show ((15:Int) != 0)=true from rfl]
   exact dZ (by omega) _ 15 (by decide) z.ao (cg.lay _ _) (q'.on _ _)
 .simp only [aa,seval,m8,q.lay,show (e == 0)=false by simpa using he,show (e != 0)=true by simpa using he]
  exact dZ (λhx=>he hx.1) _ e he z.ao (cg.lay _ _) (q.on _ _)
theorem zqF (a:Int):dX prog (Next.value <$> convert 5 3 (.int .u8 a))=some (Next.value (.int .i64 (IntKind.i64.wrap a))):=by rfl
theorem zwq (s:aA) (hs:s.size<=100000) (C:Nat) (h hc:Heap) (z:Ext h hc) (hC:h.size<=C) (q:Holds hc C (.row [.string s,.int .i64 0] 154 false)) (K:aF)
 (ea:0 < s.size->∀ h',Ext h h'->Sm C hc h'->Holds h' C (.row [.string (s.extract 1 s.size),.int .i64 0] 154 false)->K (.int .i64 (dm s 0)) h')
 (dZ:s.size=0->∀ h' e',e'≠0->Ext h h'->Sm C hc h'->Holds h' C (.row [.string s,.int .i64 e'] 154 false)->K (.int .i64 0) h'):Ok prog az ov 92 [.pointer (some ⟨C,0,none⟩)] hc K:=by
 have cg:=Sm.refl C hc
 rw [ak hc]
 refine Ok.au 10 (br Pv) ?_
 simp only [aa,seval,xa]
 refine NP s hs 0 1 C (by decide) h _ z.ao hC (q.on _ _) _ (λ_ hle h' z2 s2 q2=>?_) (λhle h' e' he z2 s2 q2=>?_)
 .replace cg:=cg.iV s2
  rw [ak h']
  have cA:(s.extract 0 1).size=1:=by rw [ByteArray.size_extract];omega
  have aV:¬ s.extract 0 1=⟨#[]⟩:=λe=>by rw [e] at cA;cases cA
  have xu:gG (s.extract 0 1) 0=(dm s 0:Int):=by rw [F3,Hu (by omega)]
  have j6:=Nw s 0
  simp only [aa,seval,xa]
  refine bp (λ_=>?_) (λhx=>absurd aV (by simpa using hx))
  simp only [aa,seval,xa]
  refine pE underlying9 rfl rfl (by omega) (by omega) ?_
  rw [show ((0:Int).toNat)=0 from rfl,xu]
  simp only [aa,seval,xa]
  rw [lB rfl rfl rfl (zqF _) rfl,wrap_i64 (by omega) (by omega)]
  simp only [aa,seval,xa]
  exact ea (by omega) _ z2.ao (cg.lay _ _) (q2.on _ _)
 .replace cg:=cg.iV s2
  rw [ak h']
  simp only [aa,seval,xa]
  refine bp (λhx=>absurd rfl hx) (λ_=>?_)
  simp only [aa,seval,xa]
  exact dZ (by omega) _ e' he z2.ao (cg.lay _ _) (q2.on _ _)
theorem RU (s:aA) (hs:s.size<=100000) (e:Int) (C:Nat) (h hc:Heap) (bJ:aI 1 h) (z:Ext h hc) (hC:h.size<=C) (q:Holds hc C (.row [.string s,.int .i64 e] 154 false)) (K:aF)
 (ea:e=0->∀ a k,ie s 0=some (a,k)->∀ h',Ext h h'->Sm C hc h'->Holds h' C (.row [.string (s.extract k s.size),.int .i64 0] 154 false)->K a.val h')
 (dZ:¬ (e=0/\ie s 0≠none)->∀ h' e',e'≠0->Ext h h'->Sm C hc h'->Holds h' C (.row [.string s,.int .i64 e'] 154 false)->K aw.val h'):Ok prog az ov 93 [.pointer (some ⟨C,0,none⟩)] hc K:=by
 have cg:=Sm.refl C hc
 have Hm:=z.size
 have hql:=q.lt
 rw [ak hc]
 have b9:∀ (s:aA) (h:Heap) (K:aF),aE (some (.string s)) h K=K (.string s) h:=λ_ _ _=>rfl
 refine Ok.au 28 (br Pw) ?_
 by_cases he:e=0
 .subst he
  repeat' (simp only [aa,seval,sC,q.lay,b9,bne_self_eq_false])
  refine Zl s hs _ ((bJ.ext z).lay _ _) _ (λa k ha h' x=>?_) (λha h' x=>?_)
  all_goals
   have qA:Holds h' (hc.size+0) (.row aw.cells 41 false):=Holds.top (i:=0) x rfl
   (replace z:=z.aj x;replace q:=q.over x;replace cg:=cg.over x;rw [ak h'])
   obtain ⟨A,hA⟩:∃ A,A=hc.size+0:=⟨_,rfl⟩
   rw [<- hA] at qA ⊢
   have ft:A≠C:=by omega
   have Ae:=z.size
  .simp only [aa,seval,sC,i7,jM,iZ,rV,e9,NW,NZ,NU,dx]
   have G3:=TW (pN _) ha
   refine dD (o:=1) q uv rfl rfl (by simp) rfl (λh9 q' c=>?_)
   replace q':Holds h9 C (.row [.string s,.int .i64 0] 154 false):=q'
   have qT:Holds h9 (h'.size+0) (.row a.cells 41 false):=Holds.Eu c q.lt rfl
   obtain ⟨X,hX⟩:∃ X,X=h'.size+0:=⟨_,rfl⟩
   rw [<- hX] at qT ⊢
   have KS:X≠C:=by have:=q.lt;omega
   have Vs:X≠A:=by have:=qA.lt;omega
   replace qA:=qA.bG c ft
   replace cg:=cg.cj c
   replace z:=z.cX c hC (by omega)
   clear q
   rw [ak h9]
   simp only [aa,seval,sC]
   refine NP s hs 0 k C (by omega) h _ z.ao hC (q'.on _ _) _ (λ_ _ zK z2 s2 q2=>?_) (λhx=>absurd ⟨rfl,G3.1⟩ hx)
   .have Af:=z2.size
    replace cg:=cg.iV s2
    replace qA:=qA.lL s2 ft
    replace qT:=qT.lL s2 KS
    clear z
    have z:=z2
    rw [ak zK]
    simp only [aa,seval,sC,qT.lay,↓eZ,dO,dx]
    refine dD (o:=0) qA dv (e9 _) rfl (by show 0+11<=11;decide) rfl (λfO dH c=>?_)
    replace dH:Holds fO A (.row a.cells 41 false):=dH
    have q9:=q2.bG c (Ne.symm ft)
    replace cg:=cg.fresh c (by omega)
    replace z:=z.cX c (by omega) (by omega)
    rw [ak fO]
    simp only [aa,seval,sC,dH.lay,↓eZ,dO,dx]
    exact ea rfl a k ha _ z.ao (cg.lay _ _) (q9.on _ _)
  .simp only [aa,seval,sC,i7,jM,iZ,rV,e9,NW,NZ,NU,dx]
   refine dD (o:=1) q uv rfl rfl (by simp) rfl (λh9 q' c=>?_)
   replace q':Holds h9 C (.row [.string s,.int .i64 15] 154 false):=q'
   have qT:Holds h9 (h'.size+0) (.row aw.cells 41 false):=Holds.Eu c q.lt rfl
   obtain ⟨X,hX⟩:∃ X,X=h'.size+0:=⟨_,rfl⟩
   rw [<- hX] at qT ⊢
   have KS:X≠C:=by have:=q.lt;omega
   have Vs:X≠A:=by have:=qA.lt;omega
   replace qA:=qA.bG c ft
   replace cg:=cg.cj c
   replace z:=z.cX c hC (by omega)
   clear q
   rw [ak h9]
   simp only [aa,seval,sC]
   refine NP s hs 15 0 C (by omega) h _ z.ao hC (q'.on _ _) _ (λhx=>absurd hx (by decide)) (λ_ zK e' mN z2 s2 q2=>?_)
   .have Af:=z2.size
    replace cg:=cg.iV s2
    replace qA:=qA.lL s2 ft
    replace qT:=qT.lL s2 KS
    clear z
    have z:=z2
    rw [ak zK]
    simp only [aa,seval,sC,qT.lay,↓eZ,dO,dx]
    refine dD (o:=0) qA dv (e9 _) rfl (by show 0+11<=11;decide) rfl (λfO dH c=>?_)
    replace dH:Holds fO A (.row aw.cells 41 false):=dH
    have q9:=q2.bG c (Ne.symm ft)
    replace cg:=cg.fresh c (by omega)
    replace z:=z.cX c (by omega) (by omega)
    rw [ak fO]
    simp only [aa,seval,sC,dH.lay,↓eZ,dO,dx]
    exact dZ (λhx=>hx.2 ha) _ e' mN z.ao (cg.lay _ _) (q9.on _ _)
 .repeat' ( simp only [aa,seval,sC,q.lay,show (e != 0)=true by simpa using he,y4,i7,jM,iZ,rV,e9,NW,NZ,NU,↓eZ,dO,dx])
  exact dZ (λhx=>he hx.1) _ e he z.ao (cg.lay _ _) (q.on _ _)
theorem N5 (s:aA) (e:Int) (C:Nat) (h hc:Heap) (z:Ext h hc) (hC:h.size<=C) (q:Holds hc C (.row [.string s,.int .i64 e] 154 false)) (K:aF)
 (hk:∀ h' e',(e'=0↔e=0/\s.size=0)->Ext h h'->Sm C hc h'->Holds h' C (.row [.string s,.int .i64 e'] 154 false)->K undef h'):Ok prog az ov 94 [.pointer (some ⟨C,0,none⟩)] hc K:=by
 have cg:=Sm.refl C hc
 rw [ak hc]
 have b9:∀ (s:aA) (h:Heap) (K:aF),aE (some (.string s)) h K=K (.string s) h:=λ_ _ _=>rfl
 refine Ok.au 16 (br Px) ?_
 by_cases he:e=0
 .subst he
  simp only [aa,seval,CQ,q.lay,b9]
  refine bp (λhx=>?_) (λhx=>?_)
  .simp only [aa,seval,CQ]
   refine dD (o:=1) q uv rfl rfl (by simp) rfl (λh9 q' c=>?_)
   replace q':Holds h9 C (.row [.string s,.int .i64 15] 154 false):=q'
   replace cg:=cg.cj c
   replace z:=z.cX c hC (by omega)
   rw [ak h9]
   simp only [aa,seval,CQ]
   exact hk _ 15 ⟨λh=>absurd h (by decide),λh=>absurd (ByteArray.size_eq_zero_iff.1 h.2) hx⟩ z.ao (cg.lay _ _) (q'.on _ _)
  .simp only [aa,seval,CQ]
   exact hk _ 0 ⟨λ_=>⟨rfl,by rw [show s=⟨#[]⟩ by simpa using hx];rfl⟩,λ_=>rfl⟩ z.ao (cg.lay _ _) (q.on _ _)
 .simp only [aa,seval,CQ,q.lay,show (e == 0)=false by simpa using he]
  exact hk _ e ⟨λh=>absurd h he,λh=>h.1⟩ z.ao (cg.lay _ _) (q.on _ _)
theorem zqu (k:Int) (a:ae) (h:Heap) (bJ:aI 1 h) (K:aF)
 (ea:1<=k->k<=3->bu a->∀ h',Ext h h'->K (.bool true) h') (dZ:¬ (1<=k/\k<=3/\bu a)->∀ h',Ext h h'->K (.bool false) h'):Ok prog az ov 95 [jI k a] h K:=by
 rw [ak h]
 have z:=Ext.refl h
 unfold jI fw ae.cells
 refine Ok.au 16 (br Py) ?_
 simp only [aa,seval,xb]
 refine bp (λh1=>?_) (λh1=>?_)
 .simp only [aa,seval,xb]
  refine bp (λh2=>?_) (λh2=>?_)
  .simp only [aa,seval,xb]
   refine S6 a _ (bJ.lay _ _) _ (λhv h' x=>?_) (λhv c h' hc x=>?_)
   ·(replace z:=z.aj x;rw [ak h'])
    simp only [aa,seval,xb]
    exact ea (by omega) (by omega) hv _ z.ao
   ·(replace z:=z.aj x;rw [ak h'])
    simp only [aa,seval,xb,show (c == 0)=false by simpa using hc]
    exact dZ (λg=>hv g.2.2) _ z.ao
  .simp only [aa,seval,xb]
   exact dZ (λg=>h2 (by omega)) _ z.ao
 .simp only [aa,seval,xb]
  exact dZ (λg=>h1 (by omega)) _ z.ao
theorem pn (h:Heap) (l:List bd) (w i o:Nat) (v:ai) (hi:i < l.length):gm az 53 (.pointer (some ⟨h.size+i,o,none⟩)) v (h.lay l w)=if v.cells.size=12 then oF l[i]? i o v.cells.toList h l w else none:=si jB h l w i o v hi
theorem zwY (s:aA):mJ az 154 [(0,.string s)]=some (.agg ⟨[.string s,.int .i64 0]⟩):=by kernel_rfl
theorem Om (k:Int) (a:ae):mJ az 53 [(0,.int .i64 k),(1,a.val)]=some (jI k a):=by kernel_rfl
theorem uD:mJ az 53 []=some (jI 0 aw):=by kernel_rfl
theorem mG (k:Int) (a:ae):(jI k a).cells.toList=fw k a:=rfl
theorem Bd (k:Int) (a:ae):(jI k a).cells.size=12:=rfl
theorem A4 (k:Int) (a:ae):(fw k a).length=12:=rfl
theorem A9 (k:Int) (a:ae):(fw k a).all Am.one=true:=rfl
theorem mK (k:Int) (a:ae):cut (fw k a) 0 12=some (fw k a):=rfl
theorem mI (k:Int) (a:ae):Value.agg (fw k a).toArray=jI k a:=rfl
theorem gZ (k:Int) (a:ae) (h:Heap) (K:aF):aE (some (jI k a)) h K=K (jI k a) h:=rfl
theorem Zx (s:aA) (hs:s.size<=100000) (h:Heap) (bJ:aI 1 h) (K:aF)
 (ea:∀ (k:Nat) (a:ae),eM s=some (k,a)->∀ h',Ext h h'->K (.tuple #[jI k a,.int .i64 0]) h')
 (dZ:eM s=none->∀ h' c,c≠0->Ext h h'->K (.tuple #[jI 0 aw,.int .i64 c]) h'):Ok prog az ov 51 [.string s] h K:=by
 rw [ak h]
 have z:=Ext.refl h
 have tZ:∀ (c:List ai) (h:Heap) (K:aF),aE (some (.agg ⟨c⟩)) h K=K (.agg ⟨c⟩) h:=λ_ _ _=>rfl
 refine Ok.au 31 (br Pc) ?_
 simp only [aa,seval,ky]
 refine bp (λnz=>?_) (λnz=>?_)
 .repeat' ( simp only [aa,seval,ky,uD,i7,jM,iZ,pn,mG,Bd,A4,A9,↓mK,mI,gZ])
  exact dZ (by unfold eM;rw [ay (by omega)]) _ 4 (by decide) z.ao
 repeat' (simp only [aa,seval,ky,tZ,zwY])
 refine zwq s (by omega) (h.size+1) h _ z.ao (by omega) ⟨by rw [cF];simp,by rw [iL];rfl⟩ _ (λye h2 z2 s2 q2=>?_) (λh0 h2 e2 G8 z2 s2 q2=>?_)
 all_goals
  have qD:Holds h2 (h.size+0) (.row (fw 0 aw) 53 false):=Holds.sm (h:=h.lay _ _) ⟨by rw [cF];simp,by rw [iL];rfl⟩ s2 (by omega)
  obtain ⟨C,hC⟩:∃ C,C=h.size+1:=⟨_,rfl⟩
  obtain ⟨D,hD⟩:∃ D,D=h.size+0:=⟨_,rfl⟩
  rw [<- hC] at q2 ⊢
  rw [<- hD] at qD ⊢
  have va:D≠C:=by omega
  clear z
  have z:=z2
  rw [ak h2]
  simp only [aa,seval,ky]
 .have yi:(s.extract 1 s.size).size=s.size - 1:=Ga (by omega)
  have Hh:=Zb (s:=s) (d:=1) (by omega) 0 (by omega)
  refine RU _ (by omega) 0 C h _ bJ z.ao (by omega) (q2.on _ _) _ (λ_ a k ha h3 z3 s3 q3=>?_) (λDF h3 e3 Dj z3 s3 q3=>?_)
  .rw [ha] at Hh
   obtain ⟨w,rH,Ad⟩:=bS.1 Hh.symm
   have G3:=TW (pN _) ha
   have pd:w.2=k+1/\w.1=a:=by
    have h1:=congrArg Prod.fst Ad
    have h2:=congrArg Prod.snd Ad
    have h3:=(zts (a:=w.1) (k:=w.2) rH)
    simp only at h1 h2
    exact ⟨by omega,h1⟩
   have vA:eM s=if w.2=s.size/\1<=dm s 0/\dm s 0<=3 then some (dm s 0,w.1) else none:=by
    unfold eM
    rw [aC (by omega),show ie s 1=some w from rH]
    rfl
   rw [pd.1,pd.2] at vA
   have vB:((s.extract 1 s.size).extract k (s.extract 1 s.size).size).size=s.size - 1 - k:=by rw [Ga G3.1,yi]
   replace qD:=qD.lL s3 va
   clear z
   have z:=z3
   have Af:=z.size
   rw [ak h3]
   repeat' (simp only [aa,seval,ky,i7,jM,iZ,pn,mG,Bd,A4,A9,gZ,Om])
   refine N5 _ 0 C h _ z.ao (by omega) (q3.on _ _) _ (λh4 e4 zT z4 s4 q4=>?_)
   have qX:Holds h4 (h3.size+0) (.row (fw (dm s 0) a) 53 false):=Holds.sm (h:=h3.lay _ _) ⟨by rw [cF];simp,by rw [iL];rfl⟩ s4 (by have:=q3.lt;omega)
   replace qD:=qD.lL s4 va
   clear z
   have z:=z4
   have Qv:=z.size
   obtain ⟨X,hX⟩:∃ X,X=h3.size+0:=⟨_,rfl⟩
   rw [<- hX] at qX ⊢
   rw [ak h4]
   by_cases xm:e4=0
   .subst xm
    have cE:=zT.1 rfl
    simp only [aa,seval,ky,q4.lay,bne_self_eq_false,qX.lay,↓mK,mI,gZ]
    refine zqu _ _ _ ((bJ.ext z).lay _ _) _ (λg1 g2 g3 h' x=>?_) (λg h' x=>?_)
    ·(replace z:=z.aj x;( replace qX:=qX.over x );( replace qD:=qD.over x );rw [ak h'])
     simp only [aa,seval,ky]
     (with_reducible apply bK);(· rfl)
     repeat' (simp only [aa,seval,ky,qX.lay,↓mK,mI,gZ])
     refine dD (o:=0) qD jB (mG _ _) rfl (bg 12) rfl (λh9 lx c=>?_)
     replace lx:Holds h9 D (.row (fw (dm s 0) a) 53 false):=lx
     replace z:=z.cX c (by omega) (by omega)
     rw [ak h9]
     simp only [aa,seval,ky,lx.lay,↓mK,mI,gZ]
     exact ea _ _ (by rw [vA,aC (by omega)]) _ z.ao
    ·(replace z:=z.aj x;( replace qX:=qX.over x );( replace qD:=qD.over x );rw [ak h'])
     simp only [aa,seval,ky]
     (with_reducible apply bK);(· rfl)
     repeat' (simp only [aa,seval,ky,uD,gZ])
     refine dD (o:=0) qD jB (mG _ _) rfl (bg 12) rfl (λh9 lx c=>?_)
     replace lx:Holds h9 D (.row (fw 0 aw) 53 false):=lx
     replace z:=z.cX c (by omega) (by omega)
     rw [ak h9]
     simp only [aa,seval,ky,lx.lay,↓mK,mI,gZ]
     exact dZ (by rw [vA,ay (λg4=>g ⟨by omega,by omega,G3.2⟩)]) _ 15 (by decide) z.ao
   .repeat' ( simp only [aa,seval,ky,q4.lay,show (e4 != 0)=true by simpa using xm,uD,gZ])
    refine dD (o:=0) qD jB (mG _ _) rfl (bg 12) rfl (λh9 lx c=>?_)
    replace lx:Holds h9 D (.row (fw 0 aw) 53 false):=lx
    replace z:=z.cX c (by omega) (by omega)
    rw [ak h9]
    simp only [aa,seval,ky,lx.lay,↓mK,mI,gZ]
    exact dZ (by rw [vA,ay (λg4=>xm (zT.2 ⟨rfl,by omega⟩))]) _ 15 (by decide) z.ao
  .have vA:eM s=none:=by
    have hn:ie (s.extract 1 s.size) 0=none:=Classical.byContradiction λg=>DF ⟨rfl,g⟩
    rw [hn] at Hh
    unfold eM
    rw [aC (by omega),Option.map_eq_none_iff.1 Hh.symm]
    rfl
   replace qD:=qD.lL s3 va
   clear z
   have z:=z3
   have Af:=z.size
   rw [ak h3]
   repeat' (simp only [aa,seval,ky,i7,jM,iZ,pn,mG,Bd,A4,A9,gZ,Om])
   refine N5 _ e3 C h _ z.ao (by omega) (q3.on _ _) _ (λh4 e4 zT z4 s4 q4=>?_)
   have qX:Holds h4 (h3.size+0) (.row (fw (dm s 0) aw) 53 false):=Holds.sm (h:=h3.lay _ _) ⟨by rw [cF];simp,by rw [iL];rfl⟩ s4 (by have:=q3.lt;omega)
   replace qD:=qD.lL s4 va
   clear z
   have z:=z4
   have Qv:=z.size
   obtain ⟨X,hX⟩:∃ X,X=h3.size+0:=⟨_,rfl⟩
   rw [<- hX] at qX ⊢
   rw [ak h4]
   have xm:e4≠0:=λg=>Dj (zT.1 g).1
   repeat' (simp only [aa,seval,ky,q4.lay,show (e4 != 0)=true by simpa using xm,uD,gZ])
   refine dD (o:=0) qD jB (mG _ _) rfl (bg 12) rfl (λh9 lx c=>?_)
   replace lx:Holds h9 D (.row (fw 0 aw) 53 false):=lx
   replace z:=z.cX c (by omega) (by omega)
   rw [ak h9]
   simp only [aa,seval,ky,lx.lay,↓mK,mI,gZ]
   exact dZ vA _ 15 (by decide) z.ao
 .have vA:eM s=none:=by
   unfold eM
   rw [ay (by omega)]
  refine RU s (by omega) e2 C h _ bJ z.ao (by omega) (q2.on _ _) _ (λg=>absurd g G8) (λDF h3 e3 Dj z3 s3 q3=>?_)
  replace qD:=qD.lL s3 va
  clear z
  have z:=z3
  have Af:=z.size
  rw [ak h3]
  repeat' (simp only [aa,seval,ky,i7,jM,iZ,pn,mG,Bd,A4,A9,gZ,Om])
  refine N5 _ e3 C h _ z.ao (by omega) (q3.on _ _) _ (λh4 e4 zT z4 s4 q4=>?_)
  have qX:Holds h4 (h3.size+0) (.row (fw 0 aw) 53 false):=Holds.sm (h:=h3.lay _ _) ⟨by rw [cF];simp,by rw [iL];rfl⟩ s4 (by have:=q3.lt;omega)
  replace qD:=qD.lL s4 va
  clear z
  have z:=z4
  have Qv:=z.size
  obtain ⟨X,hX⟩:∃ X,X=h3.size+0:=⟨_,rfl⟩
  rw [<- hX] at qX ⊢
  rw [ak h4]
  have xm:e4≠0:=λg=>Dj (zT.1 g).1
  repeat' (simp only [aa,seval,ky,q4.lay,show (e4 != 0)=true by simpa using xm,uD,gZ])
  refine dD (o:=0) qD jB (mG _ _) rfl (bg 12) rfl (λh9 lx c=>?_)
  replace lx:Holds h9 D (.row (fw 0 aw) 53 false):=lx
  replace z:=z.cX c (by omega) (by omega)
  rw [ak h9]
  simp only [aa,seval,ky,lx.lay,↓mK,mI,gZ]
  exact dZ vA _ 15 (by decide) z.ao
end Go.Proofs.YtjildadoepadeaaGreatDoor
