/- Walks: what matches a shape, in a list. Written out by fill2.py. No condition. -/
import Derived.Test.YtkgojconmeeegaaGreatDoorG36
import Derived.Lib.RowBridge
set_option linter.unusedSimpArgs false
set_option linter.unusedVariables false
set_option maxRecDepth 100000
set_option maxHeartbeats 0
noncomputable section
namespace Go.Proofs.YtkgojconmeeegaaGreatDoor
open Go.Am Tryz
theorem zGN (K:aG) (e:Env) (h:Heap):eL aA f21 K .ret e h=aD (fW aA 44 (e.get 4) h) h (λx h1=>aD (fW aA 4 (e.get 5) h1) h1 (λy h2=>K (.tuple #[x,y]) h2)):=by
 have hr:f21.results=#[.cell 4 44,.cell 5 4]:=rfl
 cases hl:fW aA 44 (e.get 4) h with
 |none=>simp [eL,mV,sM,aD,hl]
 |some x=>cases h2:fW aA 4 (e.get 5) h with
  |none=>simp [eL,mV,sM,aD,hl,h2]
  |some y=>simp [eL,mV,sM,aD,hl,h2]
def JM (X2 X4 X5 X7:Nat) (v:ae) (b:Nat) (ms:aW) (i A:Nat) (hh:Heap):Prop :=
 ∃ w,cJ 11 ak.cells hh 34 A w (ms.take i)/\Holds hh X7 (.row [w] 44 false)/\Holds hh X2 (.row [v] 44 false)/\Holds hh X4 (.row [.slice none 0 0] 44 false)/\Holds hh X5 (.row [.bool false] 4 false)/\(A≠X7/\A≠X2/\A≠X4/\A≠X5)/\b<=A/\A < hh.size
theorem JM.st {X2 X4 X5 X7 b N:Nat} {v:ae} {ms:aW} (h2:X2 < N) (h4:X4 < N) (h5:X5 < N) (h7:X7 < N):Fa N (JM X2 X4 X5 X7 v b ms):=by
 refine ⟨λ{i A h1 h' L} j hL uw fr=>?_,λj=>j.choose_spec.2.2.2.2.2.2.2⟩
 obtain ⟨w,o,q7,q2,q4,q5,n,hb,hA⟩:=j
 have hm:∀ {B:Nat},B < N->B ∉ [L]:=λhB hm=>by rw [iq.1 hm] at hB;omega
 exact ⟨w,o.ck fr (λhm=>uw (iq.1 hm).symm),q7.ck fr (hm h7),q2.ck fr (hm h2),q4.ck fr (hm h4),q5.ck fr (hm h5),n,hb,eW hA fr.size⟩
theorem zEl:rW aA 44 44=true:=by kernel_rfl
theorem zBC:cN aA 44=some 1:=by kernel_rfl
theorem zHn:cN aA 4=some 1:=by kernel_rfl
theorem zBr (f:Fn) (a b:Array ae):bY prog aA .eql 112 (.func f a b) .nilFunc=some (.bool false):=by kernel_rfl
theorem cJ.Hg {h:Heap} {u:TypeId} {A:Nat} {lw:ae} {l:aW} (f:cJ 11 ak.cells h u A lw l):Sl aJ.atom h lw l:=by
 rcases f with ⟨rfl,rfl⟩|⟨q,row,rfl,e2,e3,e4,e5,e6⟩
 .exact .nil
 .obtain ⟨c1,c2,c3⟩:=Up (k:=11) (q:=q) (by decide) e5
  have hM:(1000000000:Nat)<=maxLen:=by decide
  exact .inr ⟨A,0,G*11+q,row,u,false,rfl,by omega,.inr ⟨c3,c2,by omega⟩,e2.lt,e2.get,λi x hx=>⟨x.cells,by rw [iu];exact e6 i x hx,rfl⟩⟩
theorem zrX (l:aW) (v:ae) (p:ak) (h:Heap) (hl:Sl aJ.atom h v l) (hn:l.length<=100000) (K:aG)
 (hk:∀ h' w,Ext h h'->Sl aJ.atom h' w (l.filter (ff p))->K (.tuple #[w,.bool true]) h'):Ok prog aA ov 21 [v,p.val] h K:=by
 obtain ⟨va,vn,vc,rfl⟩:=rP hl
 rw [ao h]
 have z:=Ext.refl h
 have jy:∀ (h:Heap) (K:aG),aD (some (.slice va vn vc)) h K=K (.slice va vn vc) h:=λ_ _=>rfl
 have Cb:∀ (a b:Nat) (h:Heap) (K:aG),aD (some (.func (.func 82) ⟨[]⟩ ⟨[.pointer (some ⟨a,0,none⟩),.pointer (some ⟨b,0,none⟩)]⟩)) h K=K (.func (.func 82) ⟨[]⟩ ⟨[.pointer (some ⟨a,0,none⟩),.pointer (some ⟨b,0,none⟩)]⟩) h:=λ_ _ _ _=>rfl
 have cO:=λ(hh:Heap)=>hl.bt bC hh
 refine Ok.aq 24 (bm N21) ?_
 simp only [aa,seval,wz,jy,fA,↓dW,dO,da]
 refine zpJ (.slice va vn vc) p _ rfl _ (λh' X1 X3 X5 x M1 Ti hX5 q1 q3 q5=>?_)
 have b2:=Holds.top (i:=0) x rfl
 have b3:=Holds.top (i:=1) x rfl
 have b4:=Holds.top (i:=2) x rfl
 have b5:=Holds.top (i:=3) x rfl
 rw [bf] at M1 Ti hX5
 simp only [de,dr] at M1 Ti hX5
 (replace z:=z.aj x;rw [ao h'])
 simp only [aa,seval,wz,zBr]
 repeat' ((first|((with_reducible first|apply bg|apply lz|apply im|apply uR|apply zr) <;> intro _)) <;> simp only [aa,seval,wz,Cb,jy,zBr])
 have hz:=z.size
 have b7:Holds (h'.lay [.row [.slice none 0 0] 44 false] h'.low) (h'.size+0) (.row [.slice none 0 0] 44 false):=⟨by rw [bf];simp,by rw [gH];rfl⟩
 obtain ⟨hM,pe⟩:∃ hM,hM=h'.lay [.row [.slice none 0 0] 44 false] h'.low:=⟨_,rfl⟩
 have zM:Ext h hM:=by rw [pe];exact z.au
 have FY:hM.size=h'.size+1:=by rw [pe,bf];rfl
 have l2:=b2.lt
 have l4:=b4.lt
 have l5:=b5.lt
 have l3:=q3.lt
 have c1:Holds hM X1 (.row [.slice va vn vc] 44 false):=by rw [pe];exact q1.on _ _
 have c3:Holds hM X3 (.row p.cells 34 false):=by rw [pe];exact q3.on _ _
 have c5:Holds hM X5 (.row [Ig X1] 112 false):=by rw [pe];exact q5.on _ _
 have e2:Holds hM (h.size+0) (.row [.slice va vn vc] 44 false):=by rw [pe];exact b2.on _ _
 have e4:Holds hM (h.size+2) (.row [.slice none 0 0] 44 false):=by rw [pe];exact b4.on _ _
 have e5:Holds hM (h.size+3) (.row [.bool false] 4 false):=by rw [pe];exact b5.on _ _
 rw [<- pe] at b7 ⊢
 obtain ⟨X2,hX2⟩:∃ X2,X2=h.size+0:=⟨_,rfl⟩
 obtain ⟨X4,hX4⟩:∃ X4,X4=h.size+2:=⟨_,rfl⟩
 obtain ⟨X6,hX6⟩:∃ X6,X6=h.size+3:=⟨_,rfl⟩
 obtain ⟨X7,hX7⟩:∃ X7,X7=h'.size+0:=⟨_,rfl⟩
 rw [<- hX2] at e2 ⊢
 rw [<- hX4] at e4 ⊢
 rw [<- hX6] at e5 ⊢
 rw [<- hX7] at b7 ⊢
 clear z q1 q3 q5 b2 b3 b4 b5
 have NP:(l.filter (ff p)).length<=l.length:=AO _ _
 refine zpY (N:=hM.size) (A0:=h.size+1) (D:=[X7]) (ms:=l.filter (ff p)) (J:=JM X2 X4 X6 X7 (.slice va vn vc) h.size (l.filter (ff p))) (by kernel_rfl) zM (JM.st (by omega) (by omega) (by omega) (by omega)) (bo _) ⟨.slice none 0 0,by rw [zP];exact cJ.nil,b7,e2,e4,e5,⟨by omega,by omega,by omega,by omega⟩,by omega,by omega⟩ (λJ' h1 K' s' yl' x aP j' XL=>?_) (λi m A g1 g2 hm zz hj fr XN uw=>?_) (λDw A' zz hj=>?_)
 .exact zpI l _ p _ X1 X3 X5 hM.size (hM.size+1) (hM.size::[X7]) h h1 (zM.trans x) hl hn rfl (c1.ext x) (c3.ext x) (c5.ext x) (λB hB=>by simp only [dG,xk,or_false] at hB;omega) (by omega) (by omega) J' s' (by omega) j' yl' K' XL
 .have hlen:=(dz.1 hm).1
  have hg:=fr.size
  rw [ao g2]
  simp only [aa,seval,wz]
  refine Rr (i:=0) (by rfl) bE (by rfl) (fA m) rfl rfl ?_
  simp only [aa,seval,wz]
  refine ⟨by rw [<- ao g2];exact (Ext.refl g2).je _ _ (by omega),λH bk Bz zH qL BD=>?_⟩
  have t0:Holds H (g2.size+0) (.row m.cells 34 false):=Holds.ck ⟨by rw [bf];simp,by rw [gH];rfl⟩ Bz (by simp;omega)
  have pK:aQ [hM.size] g1 H:=((fr.mono (D':=[hM.size]) (λ_ h=>nomatch h)).trans (aQ.lay g2 _ _ [hM.size]) (λ_ h=>.inl h)).trans Bz (λB hB=>.inl hB)
  obtain ⟨w,o,r7,r2,r4,r5,⟨n7,n2,n4,n5⟩,wF,hAl⟩:=(JM.st (N:=hM.size) (by omega) (by omega) (by omega) (by omega)).st hj (bo _) uw pK
  obtain ⟨wa,wn,wc,rfl⟩:=o.shape
  have qC:=λ(hh:Heap)=>o.bt bC hh
  have Zp:((l.filter (ff p)).take i).length=i:=by rw [fj];omega
  rw [Zp] at qC
  have mT:∀ (h:Heap) (K:aG),aD (some (.slice wa wn wc)) h K=K (.slice wa wn wc) h:=λ_ _=>rfl
  have hsH:=zH.size
  have hLH:=qL.lt
  rw [ao H]
  simp only [aa,seval,wz,r7.lay,r2.lay,mT,qC,jy,cO]
  refine bg (λtD=>absurd tD (by omega)) (λ_=>?_)
  repeat' (simp only [aa,seval,wz,r7.lay,t0.lay,mT,↓dW,dO,da,ja,zEl,Hu])
  have XG:=hAl
  refine cJ.app (k:=11) (cell:=ak.cells) (x:=m) (j:=0) (λ_=>rfl) (ztt m) (by decide) bC sJ o rfl (by omega) (by omega) (λv3 h3 A3 f3 re IV tA=>?_)
  have d3:=tA XG
  have z3:=zH.cx d3 wF (by omega)
  have mi:=d3.size
  rw [bf] at mi
  simp only [de,dr] at mi
  have r7':=r7.bj d3 (Ne.symm n7)
  have r2':=r2.bj d3 (Ne.symm n2)
  have r4':=r4.bj d3 (Ne.symm n4)
  have r5':=r5.bj d3 (Ne.symm n5)
  have qL':=qL.bj d3 uw
  have l2':=r2.lt
  have l4':=r4.lt
  have l5':=r5.lt
  have l7':=r7.lt
  have xR:h.size<=A3/\(A3=A\/H.size<=A3):=by
   rcases re with ⟨e,_⟩|e
   .exact ⟨by omega,.inl e⟩
   .rw [bf] at e
    exact ⟨by omega,.inr (by omega)⟩
  have fI:aQ [A,X7] H h3:=(aQ.refl [A,X7] H).iW d3 (.inl (by simp))
  obtain ⟨xa,xn,xc,rfl⟩:=f3.shape
  rw [ao h3]
  simp only [aa,seval,wz]
  refine CH (o:=0) r7' zBC rfl rfl (by show 0+1<=1;decide) rfl (λh4 r74 d4=>?_)
  replace r74:Holds h4 X7 (.row [.slice xa xn xc] 44 false):=r74
  have z4:=z3.cx d4 (by omega) (by omega)
  have f4:=f3.bj d4 (by omega)
  have uG:=d4.size
  rw [bf] at uG
  have Td:aQ [X7] h3 h4:=(aQ.refl [X7] h3).iW d4 (.inl (by simp))
  have jm:aQ [A,X7] H h4:=fI.trans Td (λB hB=>.inl (by rw [iq.1 hB];simp))
  have hj4:JM X2 X4 X6 X7 (.slice va vn vc) h.size (l.filter (ff p)) (i+1) A3 h4:=⟨_,by rw [nT,hm];exact f4,r74,r2'.bj d4 (by omega),r4'.bj d4 (by omega),r5'.bj d4 (by omega),⟨by omega,by omega,by omega,by omega⟩,xR.1,eW (f3.lt (by simp)) (by omega)⟩
  have qL4:=qL'.bj d4 (by omega)
  rw [ao h4]
  simp only [aa,seval,wz]
  rw [<- ao H,<- ao h4]
  exact ⟨z4,qL4,A3,hj4,jm,xR.2.imp id (λe=>by omega)⟩
 .obtain ⟨w,o,r7,r2,r4,r5,_,_,hAl⟩:=hj
  rw [AQ] at o
  obtain ⟨wa,wn,wc,rfl⟩:=o.shape
  have mT:∀ (h:Heap) (K:aG),aD (some (.slice wa wn wc)) h K=K (.slice wa wn wc) h:=λ_ _=>rfl
  have dS:=zz.size
  rw [ao Dw]
  simp only [aa,seval,wz,r7.lay,mT]
  have n45:X4≠X6:=by omega
  refine CH (o:=0) r4 zBC rfl rfl (by show 0+1<=1;decide) rfl (λh4 r44 d4=>?_)
  replace r44:Holds h4 X4 (.row [.slice wa wn wc] 44 false):=r44
  have z4:=zz.cx d4 (by omega) (by omega)
  have r54:=r5.bj d4 (Ne.symm n45)
  have uG:=d4.size
  rw [bf] at uG
  have o4:=o.bj d4 (by omega)
  rw [ao h4]
  simp only [aa,seval,wz]
  refine CH (o:=0) r54 zHn rfl rfl (by show 0+1<=1;decide) rfl (λh5 r55 d5=>?_)
  replace r55:Holds h5 X6 (.row [.bool true] 4 false):=r55
  have z5:=z4.cx d5 (by omega) (by omega)
  have r45:=r44.bj d5 n45
  have Ag:=d5.size
  rw [bf] at Ag
  have o5:=o4.bj d5 (by omega)
  rw [ao h5]
  simp only [aa,seval,wz,zGN,r45.lay,r55.lay,mT,sB]
  rw [<- ao h5]
  exact hk _ _ z5 (cJ.Hg o5)
def N46:=bp f46
def x46:=PLift.up (by have c:=bq N46 f46;simp only [aI,f46,seval] at c;exact nd c <| nd @y4 <| nd @Co <| nd @Cr <| @WO)
theorem Iu:type_of% x46.down:=x46.down
def N47:=bp f47
def x47:=PLift.up (by have c:=bq N47 f47;simp only [aI,f47,seval] at c;exact nd c <| nd @CZ <| nd @eC <| @WQ)
theorem Mw:type_of% x47.down:=x47.down
def N18:=bp f18
def Qa:=PLift.up (by have c:=bq N18 f18;simp only [aI,f18,seval] at c;exact nd c <| nd @u9 <| nd @U2 <| nd @JY <| nd @y4 <| nd @mG <| nd @Cj <| nd @el <| nd @eC <| @Wq)
theorem xD:type_of% Qa.down:=Qa.down
def N14:=bp f14
def Pz:=PLift.up (by have c:=bq N14 f14;simp only [aI,f14,seval] at c;exact nd c <| nd @el <| @Wm)
theorem V3:type_of% Pz.down:=Pz.down
end Go.Proofs.YtkgojconmeeegaaGreatDoor
namespace Go.Am
open Go.Proofs
structure Vr (h:Heap) (p0 p1 p2 p5 p6:ae) (d:aw):Prop where
 s0:Sl aJ.str h p0 d.ah
 s2:Sl aJ.clear h p2 d.aU
theorem ej.k {h:Heap} {p0 p1 p2 p5 p6:ae} {d:aw} (f:ej h p0 p1 p2 p5 p6 d):Vr h p0 p1 p2 p5 p6 d:=⟨f.s0,f.s2⟩
end Go.Am
namespace Go.Proofs.YtkgojconmeeegaaGreatDoor
open Go.Am Tryz
theorem zxY (l:List aB) (v:ae) (a:aB) (h:Heap) (hl:Sl aJ.str h v l) (hs:l.length<=1000) (K:aG)
 (hk:∀ h',Ext h h'->K (.int .i64 (jz (λx=>decide (a=x)) l)) h'):Ok prog aA ov 77 [v,.string a] h K:=by
 rw [ao h]
 have z:=Ext.refl h
 refine Ok.aq 17 (bm Vo) ?_
 simp only [aa,seval,Bq]
 repeat' ((with_reducible refine uQ hl cQ ?_) <;> simp only [aa,seval,Bq])
 obtain ⟨I1,aO⟩:∃ I:Nat->Env->Heap->Prop,I=(λn e h'=>∃ (i:Nat) (h1:Heap),h'=h1.lay [] h1.low/\Ext h h1/\(n=l.length - i/\i<=l.length/\(∀ x∈l.take i,decide (a=x)=false))/\∃ J:Nat->ae,e=(v::.string a::jr J 2 5 (.int .i64 l.length::.int .i64 i::jr J 9 10 ([])))):=⟨_,rfl⟩
 refine cK I1 _ (by rw [aO];exact ⟨0,_,rfl,z,⟨rfl,by omega,by simp⟩,bc⟩) ?_
 intro n e h' aK
 rw [aO] at aK
 obtain ⟨i,bD,rfl,z,hinv,J,rfl⟩:=aK
 obtain ⟨rfl,hi,aC⟩:=hinv
 have hw:=dE i (by omega)
 simp only [aa,seval,Bq]
 refine bg (λaP=>?_) (λaP=>?_)
 rotate_left
 .simp only [aa,seval,Bq]
  rw [fX (by omega)] at aC
  have:=HC aC
  rw [this] at hk
  exact hk _ z.au
 obtain ⟨r,hr,bM⟩:=eb (l:=l) (i:=i) (by omega)
 repeat' (first|simp only [aa,seval,Bq]|((with_reducible apply bg) <;> intro _)|with_reducible refine oT (hl.mono z.inc) cQ mU (by omega) hr (λp hp=>?_)|with_reducible refine fo hp gU ?_)
 .have hx:a=r:=by assumption
  have:=Hw (p:=λx=>decide (a=x)) bM aC (sY hx)
  rw [this] at hk
  exact hk _ z.au
 .have hx:¬ a=r:=by assumption
  rw [hw]
  (rw [aO];with_reducible refine bS (m:=_) ?_ ⟨i+1,_,rfl,z,⟨rfl,by omega,mL (i:=i) (P:=λx:aB=>decide (a=x)=false) bM aC (uW hx)⟩,bc⟩;omega)
theorem zzM (l:List aB) (a:aB):decide (jz (λx=>decide (a=x)) l >= 0)=fR l a:=by
 rw [RV]
 unfold fR
 congr 1
 funext x
 exact decide_eq_decide.2 ⟨Eq.symm,Eq.symm⟩
theorem zim (l:List aB) (v:ae) (a:aB) (h:Heap) (hl:Sl aJ.str h v l) (hs:l.length<=1000) (K:aG)
 (hk:∀ h',Ext h h'->K (.bool (fR l a)) h'):Ok prog aA ov 44 [v,.string a] h K:=by
 refine Ok.aq 7 (bm Vl) ?_
 simp only [aa,seval,It]
 refine zxY l v a h hl hs _ (λh' x=>?_)
 simp only [aa,seval,It,zzM]
 refine tZ (λhh=>?_) (λhh=>?_)
 all_goals
  simp only [aa,seval,It]
  rw [hh] at hk
  exact hk _ x
theorem zm6 (l:List aB) (who:aB) (p0 p1 p2 p5 p6:ae) (q b:Int) (h:Heap) (hl:Sl aJ.str h p0 l) (hs:l.length<=1000) (K:aG) (hk:∀ h',Ext h h'->K (.bool (fR l who)) h'):Ok prog aA ov 45 [gC p0 p1 p2 p5 p6 q b,.string who] h K:=by
 rw [ao h]
 have z:=Ext.refl h
 have dn:∀ (h:Heap) (K:aG),aD (some p0) h K=K p0 h:=λ_ _=>rfl
 refine Ok.aq 7 (bm Vm) ?_
 repeat' (simp only [aa,seval,SX,jG,k6,dn])
 refine zim l _ who _ (hl.lay _ _) hs _ (λh' x=>?_)
 (replace z:=z.aj x;rw [ao h'])
 repeat' (simp only [aa,seval,SX])
 exact hk _ z.au
theorem zkF (l:List bB) (v fv:ae) (pr:bB->Bool) (h:Heap) (hl:Sl aJ.clear h v l) (hs:l.length<=1000) (yH:∀ (x:bB) (b:ae) (hc:Heap) (K:aG),Ext h hc->(∀ h',Ext hc h'->K (.bool (pr x)) h')->pw prog aA ov [.agg ⟨[.string x.who,b]⟩] hc K fv) (K:aG)
 (hk:∀ h',Ext h h'->K (.int .i64 (jz pr l)) h'):Ok prog aA ov 46 [v,fv] h K:=by
 rw [ao h]
 have z:=Ext.refl h
 refine Ok.aq 17 (bm N46) ?_
 simp only [aa,seval,Iu]
 repeat' ((with_reducible refine uQ hl kl ?_) <;> simp only [aa,seval,Iu])
 obtain ⟨I1,aO⟩:∃ I:Nat->Env->Heap->Prop,I=(λn e h'=>∃ (i:Nat) (h1:Heap),h'=h1.lay [] h1.low/\Ext h h1/\(n=l.length - i/\i<=l.length/\∀ x∈l.take i,pr x=false)/\∃ J:Nat->ae,e=(v::fv::jr J 2 5 (.int .i64 l.length::.int .i64 i::jr J 9 10 ([])))):=⟨_,rfl⟩
 refine cK I1 _ (by rw [aO];exact ⟨0,_,rfl,z,⟨rfl,by omega,by simp⟩,bc⟩) ?_
 intro n e h' aK
 rw [aO] at aK
 obtain ⟨i,bD,rfl,z,hinv,J,rfl⟩:=aK
 obtain ⟨rfl,hi,aC⟩:=hinv
 have hw:=dE i (by omega)
 repeat' (first|simp only [aa,seval,Iu]|((with_reducible apply bg) <;> intro _))
 rotate_left
 .rw [fX (by omega)] at aC
  have:=HC aC
  rw [this] at hk
  exact hk _ z.au
 obtain ⟨r,hr,bM⟩:=eb (l:=l) (i:=i) (by assumption)
 repeat' ((first|with_reducible refine CU (hl.mono z.inc) kl kB (by omega) hr (λp b hb hp=>?_)|with_reducible refine G7 hp xq kB ?_) <;> simp only [aa,seval,Iu])
 refine yH _ _ _ _ z.au (λh' x=>?_)
 (replace z:=z.aj x;rw [ao h'])
 cases hx:pr r
 rotate_left
 .simp only [aa,seval,Iu]
  have:=Hw bM aC hx
  rw [this] at hk
  exact hk _ z.au
 .simp only [aa,seval,Iu]
  rw [hw]
  (rw [aO];with_reducible refine bS (m:=_) ?_ ⟨i+1,_,rfl,z,⟨rfl,by omega,mL (i:=i) (P:=λx:bB=>pr x=false) bM aC hx⟩,bc⟩;omega)
theorem zrY (who:aB) (x:bB) (b:ae) (A:Nat) (h:Heap) (q0:Holds h A (.row [.string who] 9 false)) (K:aG)
 (hk:∀ h',Ext h h'->K (.bool (decide (x.who=who))) h'):Ok prog aA ov 47 [.agg ⟨[.string x.who,b]⟩,.pointer (some ⟨A,0,none⟩)] h K:=by
 rw [ao h]
 have z:=Ext.refl h
 refine Ok.aq 6 (bm N47) ?_
 simp only [aa,seval,Mw]
 repeat' ((first|((with_reducible first|apply bg|apply lz|apply im|apply uR|apply zr) <;> intro _)|with_reducible refine CU (hl.mono z.inc) kl kB (by omega) hr (λp b hb hp=>?_)|with_reducible refine G7 hp xq kB ?_) <;> simp only [aa,seval,Mw,q0.lay])
 simp only [aa,seval,Mw,q0.lay]
 refine bg (λhh=>?_) (λhh=>?_)
 .simp only [aa,seval,Mw]
  rw [sY hh] at hk
  exact hk _ z.au
 .simp only [aa,seval,Mw]
  rw [uW hh] at hk
  exact hk _ z.au
theorem aaA:rW aA 22 22=true:=by kernel_rfl
def uX (h h':Heap) (e:TypeId) (w:ae) (l:List aB):Prop:=(w=.slice none 0 0/\l=[])\/∃ A,h.size<=A/\l.length<=1000/\fD h' A e w l
theorem uX.sl {h h':Heap} {e:TypeId} {w:ae} {l:List aB} (f:uX h h' e w l):Sl aJ.str h' w l:=by
 rcases f with ⟨rfl,rfl⟩|⟨A,_,hn,f⟩
 .exact .nil
 .exact f.sl hn
def eF (d:aw) (who:aB):List aB:=if fR d.ah who=true then vY d who else []
theorem zkj {d:aw} {who:aB} (h:∀ c∈d.aU,c.reads.length<=40):(eF d who).length<=41:=by
 unfold eF
 split
 .rw [I8]
  have:=zpZ (who:=who) h
  omega
 .simp
theorem zhQ (d:aw) (who:aB) (p0 p1 p2 p5 p6:ae) (q b:Int) (h:Heap) (bn:(dw p0 p1 p2 p5 p6 q b).all Am.one=true) (hd:ej h p0 p1 p2 p5 p6 d) (oG:d.ah.length<=1000) (mS:d.aU.length<=1000) (gV:CI d.ah d.aU) (oH:∀ c∈d.aU,c.reads.length<=40) (K:aG)
 (hk:∀ w h',Ext h h'->uX h h' 9 w (eF d who)->K w h'):Ok prog aA ov 18 [gC p0 p1 p2 p5 p6 q b,.string who] h K:=by
 rw [ao h]
 have z:=Ext.refl h
 have rF:∀ (h:Heap) (K:aG),aD (some p2) h K=K p2 h:=λ_ _=>rfl
 refine Ok.aq 29 (bm N18) ?_
 repeat' (simp only [aa,seval,xD,jG,↓fN,fw,eU])
 refine zm6 d.ah who _ _ _ _ _ _ _ _ (hd.s0.lay _ _) oG _ (λh' x=>?_)
 have q0:=Holds.top (i:=0) x rfl
 have e0:=Holds.top (i:=1) x rfl
 (replace z:=z.aj x;rw [ao h'])
 cases hh:fR d.ah who
 .repeat' (first|simp only [aa,seval,xD]|((with_reducible apply bI);(· rfl)))
  refine hk _ _ z.au ?_
  unfold eF
  rw [hh]
  exact .inl ⟨rfl,rfl⟩
 have mT:eF d who=vY d who:=by unfold eF;rw [hh];rfl
 rw [mT] at hk
 have rH:=z.size
 repeat' (first|simp only [aa,seval,xD,q0.lay,e0.lay,oO,rF]|((with_reducible apply bI);(· rfl)))
 refine zkF d.aU _ _ (λc=>decide (c.who=who)) _ ((hd.s2.mono z.inc).lay _ _) mS (λx b hc K' xe jP=>?_) _ (λh' x=>?_)
 .rw [uM]
  exact zrY who x b _ hc (e0.over xe) K' jP
 have b0:=Holds.top (i:=0) x rfl
 (replace z:=z.aj x;replace q0:=q0.over x;replace e0:=e0.over x;rw [ao h'])
 have nX:=zpZ (who:=who) oH
 rcases zvy d.aU who with ⟨i,c,iD,wI,YG⟩|⟨iD,YG⟩
 .rw [iD]
  obtain ⟨c',hc,tz⟩:=eb (l:=d.aU) (i:=i) (by have:=(dz.1 wI).1;omega)
  cases wI.symm.trans tz
  repeat' (first|simp only [aa,seval,xD,q0.lay,oO,rF]|((with_reducible apply bg) <;> intro _))
  rotate_left
  .exfalso;omega
  repeat' ((first|with_reducible refine CU (hd.s2.mono z.inc) kl kB (by omega) hc (λp b hb hp=>?_)|with_reducible refine FG hp JY (λq hq=>?_)|with_reducible refine fo hq Fe ?_) <;> simp only [aa,seval,xD])
  have cM:c.reads.length<=900:=by have:=oH c (ig wI);omega
  simp only [cR,seval,ja,aaA]
  obtain ⟨wv,h2,A',e1,e2,e3,e4⟩:=zBU (T:=aA) (t:=22) cQ Ew (by decide) (b0.on [] h'.low) (Sl.lay (by assumption) [] h'.low) cM
  rw [e1,ao h2]
  rw [<- YG] at e2
  have z2:=z.aj e3
  have lu:=z.size
  have hA:h.size<=A':=by
   rcases e4 with e4|e4
   .omega
   .rw [e4,bf];omega
  clear e1 e3 e4
  rw [ao h2] at e2
  replace z2:=z2.je [] h2.low (by omega)
  repeat' (simp only [aa,seval,xD])
  obtain ⟨h3,s1,s2,s3⟩:=zkc e2 (by simp) (by simp only [de];omega)
  have z3:=z2.step s3 hA
  refine Ok.over (g:=H4) rfl s1 ?_
  rw [ao h3]
  rw [ao h3] at s2 z3
  repeat' (simp only [aa,seval,xD])
  obtain ⟨h4,c1,c2,c3⟩:=zjg s2 (by have:=I8 d who;intro e;unfold vY at this;rw [e] at this;simp at this;omega) (by rw [Q7,de];omega) (zer gV)
  have z4:=z3.step c3 hA
  refine Ok.over (g:=HU) rfl c1 ?_
  rw [ao h4]
  rw [ao h4] at c2 z4
  simp only [aa,seval,xD]
  exact hk _ _ z4 (.inr ⟨_,by omega,by rw [I8];omega,c2⟩)
 .rw [iD]
  have e2:=(show ∀ {N:Nat},Holds h' N (.row [.string who] 9 false)->fD h' N 9 (.slice (some ⟨N,0,none⟩) 1 1) (who::wg d.aU who) from λq=>by rw [YG];exact ⟨1,rfl,.inl ⟨by have:=AJ;omega,bo _⟩,q⟩) b0
  have z2:=z.je [] h'.low (by omega)
  rw [ao h'] at e2
  repeat' (simp only [aa,seval,xD])
  obtain ⟨h3,s1,s2,s3⟩:=zkc e2 (by simp) (by simp only [de];omega)
  have z3:=z2.step s3 (by omega)
  refine Ok.over (g:=H4) rfl s1 ?_
  rw [ao h3]
  rw [ao h3] at s2 z3
  repeat' (simp only [aa,seval,xD])
  obtain ⟨h4,c1,c2,c3⟩:=zjg s2 (by have:=I8 d who;intro e;unfold vY at this;rw [e] at this;simp at this;omega) (by rw [Q7,de];omega) (zer gV)
  have z4:=z3.step c3 (by omega)
  refine Ok.over (g:=HU) rfl c1 ?_
  rw [ao h4]
  rw [ao h4] at c2 z4
  simp only [aa,seval,xD]
  exact hk _ _ z4 (.inr ⟨_,by omega,by rw [I8];omega,c2⟩)
theorem zr4 (d:aw) (who other:aB) (p0 p1 p2 p5 p6:ae) (q b:Int) (h:Heap) (bn:(dw p0 p1 p2 p5 p6 q b).all Am.one=true) (hd:ej h p0 p1 p2 p5 p6 d) (oG:d.ah.length<=1000) (mS:d.aU.length<=1000) (gV:CI d.ah d.aU) (oH:∀ c∈d.aU,c.reads.length<=40) (K:aG)
 (hk:∀ h',Ext h h'->K (.bool (fR (eF d who) other)) h'):Ok prog aA ov 14 [gC p0 p1 p2 p5 p6 q b,.string who,.string other] h K:=by
 rw [ao h]
 have z:=Ext.refl h
 refine Ok.aq 9 (bm N14) ?_
 repeat' (simp only [aa,seval,V3,jG,↓fN,fw,eU])
 refine zhQ d who _ _ _ _ _ _ _ _ bn (hd.lay _ _) oG mS gV oH _ (λw h' x hs=>?_)
 replace hs:=hs.sl
 (replace z:=z.aj x;rw [ao h'])
 repeat' (simp only [aa,seval,V3])
 refine zim (eF d who) w other _ (hs.lay _ _) (by have:=zkj (who:=who) oH;omega) _ (λh' x=>?_)
 (replace z:=z.aj x;rw [ao h'])
 repeat' (simp only [aa,seval,V3])
 exact hk _ z.au
def N34:=bp f34
def x34:=PLift.up (by have c:=bq N34 f34;simp only [aI,f34,seval] at c;exact nd c <| @WD)
theorem c34:type_of% x34.down:=x34.down
def N64:=bp f64
def x64:=PLift.up (by have c:=bq N64 f64;simp only [aI,f64,seval] at c;exact nd c <| nd @kx <| nd @el <| nd @Z2 <| nd @eC <| nd @ky <| nd @W5 <| @XC)
theorem Bp:type_of% x64.down:=x64.down
def N9:=bp f9
def x9:=PLift.up (by have c:=bq N9 f9;simp only [aI,f9,seval] at c;exact nd c <| nd @VP <| nd @VZ <| nd @el <| nd @Z1 <| @fi9)
theorem c9:type_of% x9.down:=x9.down
def N10:=bp f10
def x10:=PLift.up (by have c:=bq N10 f10;simp only [aI,f10,seval] at c;exact nd c <| nd @VM <| nd @VY <| nd @el <| nd @ZY <| @Wi)
def N16:=bp f16
def x16:=PLift.up (by have c:=bq N16 f16;simp only [aI,f16,seval] at c;exact nd c <| nd @ZS <| nd @Cm <| nd @OE <| @Wo)
def N3:=bp f3
def x3:=PLift.up (by have c:=bq N3 f3;simp only [aI,f3,seval] at c;exact nd c <| nd @VX <| nd @zxc <| nd @EI <| nd @EJ <| nd @el <| nd @lx <| nd @bP <| nd @ZX <| nd @eC <| nd @fS <| nd @OE <| nd @Al <| @fi3)
theorem c3:type_of% x3.down:=x3.down
end Go.Proofs.YtkgojconmeeegaaGreatDoor
