/- Frames beside blocks that another thing turns. No condition. -/
import Derived.Test.YtkgojconmeeegaaGreatDoorG26
set_option linter.unusedSimpArgs false
set_option linter.unusedVariables false
set_option maxRecDepth 100000
set_option maxHeartbeats 0
noncomputable section
namespace Go.Am
theorem zfD:∀ (D X:List Nat) (h:Heap),aM (D++X) h=aM D (aM X h)
 | [],_,_=>rfl
 |A::D,X,h=>by
  show kill A (aM (D++X) h)=kill A (aM D (aM X h))
  rw [zfD D X h]
section
variable {D E X:List Nat} {a b h:Heap} {B:Nat} {k:bh}
theorem aQ.kill (f:aQ D a b) (X:List Nat):aQ D (aM X a) (aM X b):=by
 refine ⟨by rw [iQ,iQ];exact f.size,λB hB hn=>?_⟩
 rw [iQ] at hB
 by_cases hx:B∈X
 .rw [Aq hx hB,Aq hx (eW hB f.size)]
 .rw [pn hx,pn hx]
  exact f.get B hB hn
theorem aQ.dead (X:List Nat) (h:Heap):aQ X h (aM X h):=⟨by rw [iQ];exact bo _,λB _ hn=>pn hn⟩
theorem aQ.kC (X:List Nat) (h:Heap):aQ X (aM X h) h:=⟨by rw [iQ];exact bo _,λB _ hn=>(pn hn).symm⟩
theorem Holds.alive (q:Holds (aM X h) B k) (hk:k≠.dead):B ∉ X:=λhx=>by
 have h1:=q.lt
 rw [iQ] at h1
 have h2:=q.get
 rw [Aq hx h1] at h2
 cases h2
 exact hk rfl
theorem Holds.pj (q:Holds h B k) (hB:B ∉ X):Holds (aM X h) B k:=q.ck (aQ.dead X h) hB
theorem zEt (E X:List Nat) (h:Heap):b8 (aM E (aM X h)) (aM E h):=by
 refine ⟨by rw [iQ,iQ,iQ];exact bo _,λB hB hd=>?_⟩
 rw [iQ,iQ] at hB
 have hE:B ∉ E:=λhh=>hd (Aq hh (by rw [iQ];exact hB))
 have hX:B ∉ X:=λhh=>hd (by rw [pn hE];exact Aq hh hB)
 rw [pn hE,pn hE,pn hX]
end
end Go.Am
namespace Go.Am
section
variable {P:Program} {T:bL} {ov:Ov}
def Fb (P:Program) (T:bL) (ov:Ov) (h:Heap) (D:List Nat) (ms:aW) (J:Nat->Nat->Heap->Prop) (fy:ae):Prop :=
 ∀ (i:Nat) (m:ak) (A:Nat) (h1 h':Heap) (K':aG),ms[i]? = some m->Ext h h'->J i A h1->aQ [] h1 h'->(∀ h2 A2,Ext h h2->J (i+1) A2 h2->aQ (A::D) h' h2->(A2=A\/h'.size<=A2)->K' (.bool true) h2)->pw P T ov [m.val] h' K' fy
structure Fa (N:Nat) (J:Nat->Nat->Heap->Prop):Prop where
 st:∀ {i A:Nat} {h1 h2:Heap} {L:Nat},J i A h1->N<=L->L≠A->aQ [L] h1 h2->J i A h2
 lt:∀ {i A:Nat} {h:Heap},J i A h->A < h.size
theorem Fa.inc {N:Nat} {J:Nat->Nat->Heap->Prop} (s:Fa N J) {i A:Nat} {h1 h2:Heap} (j:J i A h1) (f:aQ [] h1 h2):J i A h2 :=
 s.st (L:=N+A+1) j (by omega) (by omega) (f.mono (λ_ h=>nomatch h))
theorem zpY {h hs:Heap} {N A0:Nat} {D:List Nat} {ms:aW} {J:Nat->Nat->Heap->Prop} {f:FuncId} {ca:List ae} {assign body:Code} {e:Env} {p:Tmp} {Q:Ex->Env->Heap->Prop} (hb:RU T f=true) (z:Ext h hs) (s:Fa N J) (hN:N<=hs.size) (j:J 0 A0 hs)
 (call:∀ (J':Nat->Nat->Heap->Prop) (mh:Heap) (K:aG),Fa (hs.size+1) J'->Fb P T ov h (hs.size::D) ms J' (.func (.yield hs.size) ⟨[]⟩ ⟨[]⟩)->Ext hs mh->hs.size < mh.size->J' 0 A0 mh->(∀ h' A',Ext h h'->J' ms.length A' h'->K undef h')->Ok P T ov f (.func (.yield hs.size) ⟨[]⟩ ⟨[]⟩::ca) mh K)
 (round:∀ (i:Nat) (m:ak) (A:Nat) (h1 h':Heap),ms[i]? = some m->Ext h h'->J i A h1->aQ [] h1 h'->hs.size < h1.size->hs.size≠A->W P T ov (some hs.size) assign (e.set p m.val) h' λx e1 h2=>x=.normal/\Ext h' h2 /\
  ∀ H bk,aQ [hs.size] h2 H->Ext h H->Holds H hs.size bk->(∀ cs u ro,bk≠.row cs u ro)->W P T ov (some hs.size) body e1 H λx _ h3=>x=.normal/\Ext h h3/\Holds h3 hs.size bk/\∃ A2,J (i+1) A2 h3/\aQ (A::D) H h3/\(A2=A\/H.size<=A2))
 (jO:∀ h' A',Ext h h'->J ms.length A' h'->Q .normal e h'):C1 P T ov none (.func (.func f) ⟨[]⟩ ⟨ca⟩) [p] assign body e hs Q:=by
 have pY:=z.size
 have aP:=s.lt j
 have Ga:∀ (h1:Heap) (b:bh),hs.size < h1.size->fB hs.size h1 (h1.set hs.size b)/\Holds (h1.set hs.size b) hs.size b:=λh1 b aP=>⟨⟨by rw [Heap.size_set];exact bo _,λB hB ba=>by rw [Heap.aR _ _ _ _ aP,az ba],by rw [Heap.bX];omega⟩,⟨by rw [Heap.size_set];exact aP,by rw [Heap.aR _ _ _ _ aP,aE rfl]⟩⟩
 have B4:Ext hs (hs.push (.loop e [p] assign body .ready none)):=⟨by rw [Heap.size_push];omega,λA hA=>by rw [Heap.bx,az (by omega)],by rw [Heap.dv];omega⟩
 have yG:Holds (hs.push (.loop e [p] assign body .ready none)) hs.size (.loop e [p] assign body .ready none):=⟨by rw [Heap.size_push];omega,by rw [Heap.bx,aE rfl]⟩
 refine zlP hb ?_
 refine call (λi A h'=>J i A h'/\Holds h' hs.size (.loop e [p] assign body .ready none)/\hs.size≠A) _ _ ⟨λ{i A h1 h2 L} hj hL uw fr=>⟨s.st hj.1 (by omega) uw fr,hj.2.1.ck fr (by simp;omega),hj.2.2⟩,λhj=>s.lt hj.1⟩ ?_ B4 (by rw [Heap.size_push];omega) ⟨s.inc j (B4.ck []),yG,by omega⟩ ?_
 .rintro i m A h1 h' K' hm zz ⟨hj,IE,uw⟩ fr hk
  have ha:=IE.dR fr
  refine zl3 (env:=e) (ps:=[p]) (assign:=assign) (body:=body) ha.get rfl ?_
  refine W.mono assign _ _ _ _ ?_ (round i m A h1 h' hm zz hj fr IE.lt uw)
  rintro x e1 h2 ⟨hx,x2,hw⟩
  have F3:=ha.ext x2
  obtain ⟨c1,b1⟩:=Ga h2 (.loop e [p] assign body .busy none) F3.lt
  refine ⟨hx,F3.get,W.mono body _ _ _ _ ?_ (hw _ _ (c1.ck (D:=[hs.size]) (by simp)) ((zz.trans x2).step c1 pY) b1 (by nofun))⟩
  rintro y e2 h3 ⟨rfl,z3,b3,A2,j3,f3,ra⟩
  refine ⟨b3.get,?_⟩
  obtain ⟨c3,b4⟩:=Ga h3 (.loop e [p] assign body .ready none) b3.lt
  have yV:=x2.size
  have vt:=c1.size
  have ba:hs.size≠A2:=λe=>by
   rcases ra with e2|e2
   .exact uw (e.trans e2)
   .have:=F3.lt;omega
  have fc1:aQ [hs.size] h2 _:=c1.ck (by simp)
  have MG:aQ [hs.size] h3 _:=c3.ck (by simp)
  refine hk _ A2 (z3.step c3 pY) ⟨s.st j3 hN ba MG,b4,ba⟩ ?_ (ra.imp id (λe=>by omega))
  refine (((x2.ck (A::hs.size::D)).trans fc1 (λB hB=>.inl (by rw [iq.1 hB];simp))).trans f3 (λB hB=>.inl ?_)).trans MG (λB hB=>.inl (by rw [iq.1 hB];simp))
  rcases dG.1 hB with rfl|hB
  .simp
  .exact gJ _ (gJ _ hB)
 .rintro h' A' zz ⟨hj,ha,ba⟩
  refine ⟨_,_,ha.get,.inl ⟨rfl,rfl,?_⟩⟩
  obtain ⟨c3,_⟩:=Ga h' (.loop e [p] assign body .exhausted none) ha.lt
  exact jO _ A' (zz.step c3 pY) (s.st hj hN ba (c3.ck (by simp)))
end
end Go.Am
namespace Go.Proofs.YtkgojconmeeegaaGreatDoor
open Go.Am Tryz
theorem zyn (v:ae) (h:Heap) (cv:v.cells.toList=[v]) (K:aG)
 (hk:∀ h' X1,Ext h h'->h.size<=X1->Holds h' X1 (.row [v] 44 false)->K (.func (.func 136) ⟨[]⟩ ⟨[.pointer (some ⟨X1,0,none⟩)]⟩) h'):Ok prog aA ov 81 [v] h K:=by
 rw [ao h]
 have z:=Ext.refl h
 refine Ok.aq 3 (bm N81) ?_
 simp only [aa,seval,c81,cv]
 exact hk _ (h.size+0) z.au (by omega) ⟨by rw [bf];simp,by rw [gH];rfl⟩
theorem zvp (l:aW) (v:ae) (A0 X1 Y N:Nat) (D:List Nat) (h hs:Heap) (z:Ext h hs) (hl:Sl aJ.atom h v l) (hn:l.length<=100000) (cv:v.cells.toList=[v]) (q1:Holds hs X1 (.row [v] 44 false)) (J:Nat->Nat->Heap->Prop) (s:Fa N J) (hN:N<=hs.size) (j0:J 0 A0 hs)
 (yl:Fb prog aA ov h D l J (.func (.yield Y) ⟨[]⟩ ⟨[]⟩)) (K:aG) (hK:∀ h' A',Ext h h'->J l.length A' h'->K undef h'):Ok prog aA ov 136 [.func (.yield Y) ⟨[]⟩ ⟨[]⟩,.pointer (some ⟨X1,0,none⟩)] hs K:=by
 rw [ao hs]
 have jy:∀ (h:Heap) (K:aG),aD (some v) h K=K v h:=λ_ _=>rfl
 have cO:=λ(hh:Heap)=>hl.bt bC hh
 refine Ok.aq 14 (bm KH) ?_
 simp only [aa,seval,th,q1.lay,jy,cO]
 have jl:=s.inc j0 (aQ.lay hs [] hs.low [])
 obtain ⟨I1,aO⟩:∃ I:Nat->Env->Heap->Prop,I=(λn e h'=>∃ (i:Nat) (A:Nat) (h1:Heap),h'=h1.lay [] h1.low/\Ext h h1/\(n=l.length - i/\i<=l.length/\J i A h1/\N<=h1.size)/\∃ J:Nat->ae,e=(.func (.yield Y) ⟨[]⟩ ⟨[]⟩::jr J 1 4 (v::.int .i64 l.length::.int .i64 i::jr J 8 8 ([])))):=⟨_,rfl⟩
 refine cK I1 _ (by rw [aO];exact ⟨0,A0,_,rfl,z,⟨rfl,by omega,jl,hN⟩,bc⟩) ?_
 intro n e h' aK
 rw [aO] at aK
 obtain ⟨i,A,bD,rfl,z,hinv,J,rfl⟩:=aK
 clear jl
 obtain ⟨rfl,hi,j,hN1⟩:=hinv
 have fb:=dE i (by omega)
 have hz:=z.size
 simp only [aa,seval,th]
 refine bg (λaP=>?_) (λlq=>?_)
 rotate_left
 .have he:i=l.length:=by omega
  subst he
  simp only [aa,seval,th]
  exact hK _ A z.au (s.inc j (aQ.lay _ _ _ []))
 obtain ⟨r,hr,bM⟩:=eb (l:=l) (i:=i) (by omega)
 simp only [aa,seval,th]
 repeat' ((first|with_reducible refine mM (hl.mono z.inc) bC bE (by omega) hr (λp hp=>?_)|with_reducible refine ly hp eK bE ?_) <;> simp only [aa,seval,th,iR,iT,gX,vQ,fA,↓dW,dO,da,vQ,zAK,zzU,ztt])
 refine yl i r A bD _ _ bM ?_ j (aQ.lay _ _ _ []) (λh2 A2 z3 j2 f2 ra=>?_)
 .exact z.au
 have gr:=f2.size
 rw [bf] at gr
 clear z
 have z:=z3
 rw [ao h2]
 simp only [aa,seval,th]
 (with_reducible apply bI);(· rfl)
 simp only [aa,seval,th]
 rw [fb]
 (rw [aO];with_reducible refine bS (m:=_) ?_ ⟨i+1,A2,_,rfl,z,⟨rfl,by omega,j2,by omega⟩,bc⟩;omega)
theorem zEo:cN aA 112=some 1:=by kernel_rfl
noncomputable abbrev Ig (X1:Nat):ae:=.func (.func 136) ⟨[]⟩ ⟨[.pointer (some ⟨X1,0,none⟩)]⟩
theorem zo3 {Z:Type} {f:Z->Bool} {l:List Z} {i:Nat} {m:Z} (hm:l[i]? = some m) (hf:f m=true):(l.filter f)[((l.take i).filter f).length]? = some m/\((l.take (i+1)).filter f).length=((l.take i).filter f).length+1:=by
 have h1:l.take (i+1)=l.take i++[m]:=by rw [nT,hm];rfl
 have h2:(l.take (i+1)).filter f=(l.take i).filter f++[m]:=by rw [h1,zL,ER,aE hf,List.filter_nil]
 refine ⟨?_,by rw [h2,cW];rfl⟩
 have h3:l.filter f=(l.take i).filter f++[m]++(l.drop (i+1)).filter f:=by rw [<- h2,<- zL,qo]
 rw [h3,jD,px (bo _),Df]
 rfl
theorem zlx {Z:Type} {f:Z->Bool} {l:List Z} {i:Nat} {m:Z} (hm:l[i]? = some m) (hf:f m=false):((l.take (i+1)).filter f).length=((l.take i).filter f).length:=by
 rw [nT,hm,zL]
 simp [hf]
def ff (p x:ak):Bool:=(ec [] p x).isSome
theorem zpJ (v:ae) (p:ak) (h:Heap) (cv:v.cells.toList=[v]) (K:aG)
 (hk:∀ h' X1 X3 X5,Ext h h'->h.size<=X1->h.size<=X3->h.size<=X5->Holds h' X1 (.row [v] 44 false)->Holds h' X3 (.row p.cells 34 false)->Holds h' X5 (.row [Ig X1] 112 false)->K (.func (.func 82) ⟨[]⟩ ⟨[.pointer (some ⟨X5,0,none⟩),.pointer (some ⟨X3,0,none⟩)]⟩) h'):Ok prog aA ov 51 [v,p.val] h K:=by
 rw [ao h]
 have z:=Ext.refl h
 have Cb:∀ (X1:Nat) (h:Heap) (K:aG),aD (some (.func (.func 136) ⟨[]⟩ ⟨[.pointer (some ⟨X1,0,none⟩)]⟩)) h K=K (.func (.func 136) ⟨[]⟩ ⟨[.pointer (some ⟨X1,0,none⟩)]⟩) h:=λ_ _ _=>rfl
 refine Ok.aq 7 (bm N51) ?_
 simp only [aa,seval,SZ,fA]
 refine zyn v _ cv _ (λh' X1 x M1 q1=>?_)
 rw [bf] at M1
 have q3:=Holds.top (i:=0) x rfl
 (replace z:=z.aj x;rw [ao h'])
 simp only [aa,seval,SZ]
 repeat' ((first|((with_reducible first|apply bg|apply lz|apply im|apply uR|apply zr) <;> intro _)) <;> simp only [aa,seval,SZ,Cb])
 refine Rr (i:=0) (by rfl) zEo (by rfl) (vs:=[Ig X1]) rfl rfl rfl ?_
 simp only [aa,seval,SZ]
 have hz:=z.size
 refine hk _ X1 (h.size+0) (h'.size+0) z.au (by omega) (by omega) (by omega) (q1.on _ _) (q3.on _ _) ⟨by rw [bf];simp,by rw [gH];rfl⟩
theorem zpI (l:aW) (v:ae) (p:ak) (A0 X1 X3 X5 Y N:Nat) (D:List Nat) (h hs:Heap) (z:Ext h hs) (hl:Sl aJ.atom h v l) (hn:l.length<=100000) (cv:v.cells.toList=[v])
 (q1:Holds hs X1 (.row [v] 44 false)) (q3:Holds hs X3 (.row p.cells 34 false)) (q5:Holds hs X5 (.row [Ig X1] 112 false)) (hD:∀ B∈D,B < hs.size/\B≠X3) (re:A0≠X3) (dK:A0 < hs.size) (J:Nat->Nat->Heap->Prop) (s:Fa N J) (hN:N<=hs.size) (j0:J 0 A0 hs)
 (yl:Fb prog aA ov h D (l.filter (ff p)) J (.func (.yield Y) ⟨[]⟩ ⟨[]⟩)) (K:aG) (hK:∀ h' A',Ext h h'->J (l.filter (ff p)).length A' h'->K undef h'):Ok prog aA ov 82 [.func (.yield Y) ⟨[]⟩ ⟨[]⟩,.pointer (some ⟨X5,0,none⟩),.pointer (some ⟨X3,0,none⟩)] hs K:=by
 rw [ao hs]
 have hvy:∀ (h:Heap) (K:aG),aD (some (.func (.yield Y) ⟨[]⟩ ⟨[]⟩)) h K=K (.func (.yield Y) ⟨[]⟩ ⟨[]⟩) h:=λ_ _=>rfl
 have Cb:∀ (h:Heap) (K:aG),aD (some (Ig X1)) h K=K (Ig X1) h:=λ_ _=>rfl
 have DA:hs.size+0=hs.size:=rfl
 refine Ok.aq 19 (bm N82) ?_
 simp only [aa,seval,Br,q5.lay,Cb]
 unfold Ig
 have hz:=z.size
 have q0:Holds (hs.lay [.row [.func (.yield Y) ⟨[]⟩ ⟨[]⟩] 57 false] hs.low) (hs.size+0) (.row [.func (.yield Y) ⟨[]⟩ ⟨[]⟩] 57 false):=⟨by rw [bf];simp,by rw [gH];rfl⟩
 obtain ⟨hM,pe⟩:∃ hM,hM=hs.lay [.row [.func (.yield Y) ⟨[]⟩ ⟨[]⟩] 57 false] hs.low:=⟨_,rfl⟩
 have zM:Ext h hM:=by rw [pe];exact z.au
 have q1M:Holds hM X1 (.row [v] 44 false):=by rw [pe];exact q1.on _ _
 have q3M:Holds hM X3 (.row p.cells 34 false):=by rw [pe];exact q3.on _ _
 have jM:J 0 A0 hM:=by rw [pe];exact s.inc j0 (aQ.lay hs _ hs.low [])
 have FY:hM.size=hs.size+1:=by rw [pe,bf];rfl
 have Ti:=q3.lt
 rw [<- pe] at q0 ⊢
 obtain ⟨B0,XH⟩:∃ B0,B0=hs.size+0:=⟨_,rfl⟩
 rw [<- XH] at q0 ⊢
 have hD0:B0 ∉ D:=λhm=>by have:=(hD _ hm).1;omega
 have tu:X3 ∉ D:=λhm=>(hD _ hm).2 rfl
 clear q1 q3 q5 z j0
 refine zpY (N:=hM.size) (A0:=A0) (D:=D) (ms:=l) (J:=λi A hh=>J ((l.take i).filter (ff p)).length A hh/\Holds hh B0 (.row [.func (.yield Y) ⟨[]⟩ ⟨[]⟩] 57 false)/\Holds hh X3 (.row p.cells 34 false)/\A≠B0/\A≠X3) (by kernel_rfl) zM ⟨λ{i A h1 h2 L} j hL uw fr=>⟨s.st j.1 (by omega) uw fr,j.2.1.ck fr (by simp;omega),j.2.2.1.ck fr (by simp;omega),j.2.2.2⟩,λj=>s.lt j.1⟩ (bo _) ⟨jM,q0,q3M,by omega,re⟩ (λJ' h1 K' s' yl' x aP j' XL=>?_) (λi m A g1 g2 hm zz hj fr XN uw=>?_) (λh' A' zz hj=>?_)
 .exact zvp l v A0 X1 hM.size (hM.size+1) (hM.size::D) h h1 (zM.trans x) hl hn cv (q1M.ext x) J' s' (by omega) j' yl' K' XL
 .obtain ⟨j,q0g,q3g,Z5,Z6⟩:=hj
  have hg:=fr.size
  rw [ao g2]
  simp only [aa,seval,Br]
  refine Rr (i:=0) (by rfl) bE (by rfl) (fA m) rfl rfl ?_
  simp only [aa,seval,Br]
  refine ⟨by rw [<- ao g2];exact (Ext.refl g2).je _ _ (by omega),λH bk Bz zH qL BD=>?_⟩
  have t0:Holds H (g2.size+0) (.row m.cells 34 false):=Holds.ck ⟨by rw [bf];simp,by rw [gH];rfl⟩ Bz (by simp;omega)
  have pK:aQ [hM.size] g1 H:=((fr.mono (D':=[hM.size]) (λ_ h=>nomatch h)).trans (aQ.lay g2 _ _ [hM.size]) (λ_ h=>.inl h)).trans Bz (λB hB=>.inl hB)
  have qf:Holds H B0 (.row [.func (.yield Y) ⟨[]⟩ ⟨[]⟩] 57 false):=q0g.ck pK (by simp;omega)
  have qp:Holds H X3 (.row p.cells 34 false):=q3g.ck pK (by simp;omega)
  have jH:=s.st j (by omega) uw pK
  clear q0g q3g j
  have hsH:=zH.size
  rw [ao H]
  simp only [aa,seval,Br,qp.lay,t0.lay,↓dW,dO,da]
  refine zAg p m _ _ (λh' w b x jd yO=>?_)
  have fx:aQ [] H h':=(aQ.refl [] H).over x
  have j1:=s.inc jH fx
  replace zH:=zH.aj x
  replace qp:=qp.over x
  replace qf:=qf.over x
  replace t0:=t0.over x
  replace qL:=qL.over x
  have ka:=fx.size
  have mT:∀ (h:Heap) (K:aG),aD (some w) h K=K w h:=λ_ _=>rfl
  rw [ao h']
  cases he:ec [] p m with
  |none =>
   obtain rfl:=jd he
   repeat' (simp only [aa,seval,Br,mT])
   rw [<- ao H,<- ao h',zlx hm (by simp [ff,he])]
   exact ⟨zH,qL,A,⟨j1,qf,qp,Z5,Z6⟩,fx.mono (λ_ h=>nomatch h),.inl rfl⟩
  |some mm =>
   obtain rfl:=(yO mm he).1
   repeat' (simp only [aa,seval,Br,mT,hvy,qf.lay,t0.lay,↓dW,dO,da])
   obtain ⟨mf,hlen⟩:=zo3 hm (f:=ff p) (by simp [ff,he])
   have hlH:=qL.lt
   have Gv:=qf.lt
   have BQ:=qp.lt
   have hML:hM.size ∉ A::D:=λhq=>by
    rcases dG.1 hq with e|e
    .exact uw e
    .have:=(hD _ e).1;omega
   have XH:B0 ∉ A::D:=λhq=>(dG.1 hq).elim (λe=>Z5 e.symm) hD0
   have hB3:X3 ∉ A::D:=λhq=>(dG.1 hq).elim (λe=>Z6 e.symm) tu
   rw [<- ao h']
   refine yl _ m A h' h' _ mf zH j1 (aQ.refl [] h') (λh2 A2 z3 j2 f2 ra=>?_)
   have f3:aQ (A::D) H h2:=(fx.mono (D':=A::D) (λ_ h=>nomatch h)).trans f2 (λ_ h=>.inl h)
   have gr:=fx.size
   rw [ao h2]
   simp only [aa,seval,Br]
   (with_reducible apply bI);(· rfl)
   repeat' (simp only [aa,seval,Br])
   rw [<- ao H,<- ao h2,hlen]
   exact ⟨z3,qL.ck f2 hML,A2,⟨j2,qf.ck f2 XH,qp.ck f2 hB3,by omega,by omega⟩,f3,ra.imp id (λe=>by omega)⟩
 .obtain ⟨j,q0g,q3g,Z5,Z6⟩:=hj
  rw [AQ] at j
  rw [ao h']
  simp only [syms,seval,Br]
  exact hK _ A' zz.au (s.inc j (aQ.lay _ _ _ []))
def KD:=bp f121
def Pq:=PLift.up (by have c:=bq KD f121;simp only [aI,f121,seval] at c;exact nd c <| nd @zD0 <| @zFi)
theorem V2:type_of% Pq.down:=Pq.down
def LW:=bp f257
def QU:=PLift.up (by have c:=bq LW f257;simp only [aI,f257,seval] at c;exact nd c <| nd @zCD <| nd @lx <| @zGJ)
theorem xJ:type_of% QU.down:=QU.down
def LZ:=bp f260
def QX:=PLift.up (by have c:=bq LZ f260;simp only [aI,f260,seval] at c;exact nd c <| nd @zCD <| nd @lx <| nd @zGM <| @zGY)
theorem xK:type_of% QX.down:=QX.down
def LX:=bp f258
def QV:=PLift.up (by have c:=bq LX f258;simp only [aI,f258,seval] at c;exact nd c <| nd @zrq <| nd @zCD <| nd @zCM <| nd @lx <| nd @zD0 <| @zGK)
theorem Mt:type_of% QV.down:=QV.down
def LY:=bp f259
def QW:=PLift.up (by have c:=bq LY f259;simp only [aI,f259,seval] at c;exact nd c <| nd @zET <| nd @zrq <| nd @zCM <| nd @zGL <| @zGX)
theorem Fu:type_of% QW.down:=QW.down
def KE:=bp f122
def Pr:=PLift.up (by have c:=bq KE f122;simp only [aI,f122,seval] at c;exact nd c <| @zFj)
theorem xz:type_of% Pr.down:=Pr.down
def KG:=bp f124
def Pt:=PLift.up (by have c:=bq KG f124;simp only [aI,f124,seval] at c;exact nd c <| nd @zFl <| @zGP)
theorem Bd:type_of% Pt.down:=Pt.down
def Lb:=bp f168
def P3:=PLift.up (by have c:=bq Lb f168;simp only [aI,f168,seval] at c;exact nd c <| nd @zFS <| @zGS)
theorem mv:type_of% P3.down:=P3.down
def La:=bp f167
def P2:=PLift.up (by have c:=bq La f167;simp only [aI,f167,seval] at c;exact nd c <| @zFR)
theorem ek:type_of% P2.down:=P2.down
def KF:=bp f123
def Ps:=PLift.up (by have c:=bq KF f123;simp only [aI,f123,seval] at c;exact nd c <| nd @zrr <| nd @zrt <| nd @zCE <| nd @zCN <| nd @lx <| nd @zD1 <| @zFk)
theorem xA:type_of% Ps.down:=Ps.down
def N73:=bp f73
def x73:=PLift.up (by have c:=bq N73 f73;simp only [aI,f73,seval] at c;exact nd c <| nd @zEU <| nd @zrq <| nd @zxb <| nd @zrr <| nd @zrs <| nd @zrt <| nd @zCE <| nd @zCM <| nd @zCN <| nd @zCO <| nd @lx <| nd @zD1 <| nd @Al <| @Xc)
theorem pG:type_of% x73.down:=x73.down
def N76:=bp f76
def x76:=PLift.up (by have c:=bq N76 f76;simp only [aI,f76,seval] at c;exact nd c <| nd @zxb <| nd @zrr <| nd @zrs <| nd @zCu <| nd @zrt <| nd @zCE <| nd @zCN <| nd @zCO <| nd @lx <| nd @eC <| @Xf)
theorem wA:type_of% x76.down:=x76.down
def N75:=bp f75
def x75:=PLift.up (by have c:=bq N75 f75;simp only [aI,f75,seval] at c;exact nd c <| nd @zrs <| nd @zCO <| @Xe)
theorem V6:type_of% x75.down:=x75.down
def N96:=bp f96
def x96:=PLift.up (by have c:=bq N96 f96;simp only [aI,f96,seval] at c;exact nd c <| @Xw)
theorem c96:type_of% x96.down:=x96.down
end Go.Proofs.YtkgojconmeeegaaGreatDoor
