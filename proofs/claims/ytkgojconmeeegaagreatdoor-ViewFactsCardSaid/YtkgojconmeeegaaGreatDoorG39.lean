/- Walks: members gone through, with what is had of each. Written out by mka3.py and fill2.py. No condition. -/
import Derived.Test.YtkgojconmeeegaaGreatDoorG37
import Derived.Test.YtkgojconmeeegaaGreatDoorG38
set_option linter.unusedSimpArgs false
set_option linter.unusedVariables false
set_option maxRecDepth 100000
set_option maxHeartbeats 0
noncomputable section
namespace Go.Proofs.YtkgojconmeeegaaGreatDoor
open Go.Am Tryz
def eP (E:List TypeId) (h h2:Heap):Prop:=h.size<=h2.size/\∀ B cs e ro,h.get B=some (.row cs e ro)->e∈E->h2.get B=h.get B
section
variable {E:List TypeId} {h h1 h2 h3:Heap} {A w:Nat} {bs:List bh}
theorem eP.refl:eP E h h:=⟨bo _,λ_ _ _ _ _ _=>rfl⟩
theorem eP.trans (f:eP E h h2) (g:eP E h2 h3):eP E h h3:=⟨il f.1 g.1,λB cs e ro hB he=>(g.2 B cs e ro ((f.2 B cs e ro hB he).trans hB) he).trans (f.2 B cs e ro hB he)⟩
theorem eP.ck {D:List Nat} (x:aQ D h h2) (hD:∀ B∈D,∀ cs e ro,h.get B=some (.row cs e ro)->e ∉ E):eP E h h2:=⟨x.size,λB cs e ro hB he=>x.get B (Heap.bF hB) (λhm=>hD B hm cs e ro hB he)⟩
theorem eP.holds {cs:List ae} {e:TypeId} {ro:Bool} (f:eP E h h2) (q:Holds h A (.row cs e ro)) (he:e∈E):Holds h2 A (.row cs e ro):=⟨eW q.lt f.1,(f.2 A cs e ro q.get he).trans q.get⟩
theorem eP.over (f:eP E h h1) (x:Ext (h1.lay bs w) h2):eP E h h2:=f.trans (eP.ck (D:=[]) ((aQ.refl [] h1).over x) (λ_ h=>nomatch h))
theorem uX.keep {e:TypeId} {v:ae} {l:List aB} (f:uX h h1 e v l) (k:eP E h1 h2) (he:e∈E):Sl aJ.str h2 v l:=by
 rcases f with ⟨rfl,rfl⟩|⟨A,_,hn,c,e1,e2,q⟩
 .exact .nil
 .exact fD.sl ⟨c,e1,e2,k.holds q he⟩ hn
end
theorem zDR:aA.desc 22=some (.slice 9):=by kernel_rfl
theorem zAb (p0 p1 p2 p5 p6:ae) (q b:Int) (who:aB) (fv:ae) (h:Heap) (cf:fv.cells.toList=[fv]) (K:aG)
 (hk:∀ h' X1 X2 X3,Ext h h'->h.size<=X1->h.size<=X2->h.size<=X3->Holds h' X1 (.row (dw p0 p1 p2 p5 p6 q b) 28 false)->Holds h' X2 (.row [.string who] 9 false)->Holds h' X3 (.row [fv] 89 false)->K (.func (.func 64) ⟨[]⟩ ⟨[.pointer (some ⟨X1,0,none⟩),.pointer (some ⟨X2,0,none⟩),.pointer (some ⟨X3,0,none⟩)]⟩) h'):Ok prog aA ov 34 [gC p0 p1 p2 p5 p6 q b,.string who,fv] h K:=by
 rw [ao h]
 have z:=Ext.refl h
 refine Ok.aq 5 (bm N34) ?_
 simp only [aa,seval,c34,cf,jG]
 refine hk _ (h.size+0) (h.size+1) (h.size+2) z.au (by omega) (by omega) (by omega) ?_ ?_ ?_
 .exact ⟨by rw [bf];simp,by rw [gH];rfl⟩
 .exact ⟨by rw [bf];simp,by rw [gH];rfl⟩
 .exact ⟨by rw [bf];simp,by rw [gH];rfl⟩
theorem zxW (d:aw) (who:aB) (p0 p1 p2 p5 p6:ae) (q b:Int) (Y X1 X2 X3:Nat) (fv:ae) (h hs:Heap) (z:Ext h hs) (bn:(dw p0 p1 p2 p5 p6 q b).all Am.one=true) (hd:ej hs p0 p1 p2 p5 p6 d) (oG:d.ah.length<=1000) (mS:d.aU.length<=1000) (gV:CI d.ah d.aU) (oH:∀ c∈d.aU,c.reads.length<=40)
 (q1:Holds hs X1 (.row (dw p0 p1 p2 p5 p6 q b) 28 false)) (q2:Holds hs X2 (.row [.string who] 9 false)) (q3:Holds hs X3 (.row [fv] 89 false))
 (J:Nat->Heap->Prop) (hJ:∀ i h1 h2,J i h1->aQ [] h1 h2->J i h2) (h0:J 0 hs) (R:aB->ae->Heap->Heap->Prop)
 (has:∀ (m:aB) (h':Heap) (K':aG),Ext h h'->(∀ v h2,Ext h' h2->R m v h' h2->K' v h2)->pw prog aA ov [.string m] h' K' fv)
 (round:∀ (i:Nat) (m:aB) (v:ae) (h1 h':Heap) (K':aG),(eF d who)[i]? = some m->Ext h h'->J i h1->aQ [] h1 h'->R m v h1 h'->(∀ h2,Ext h h2->J (i+1) h2->eP [9,89] h' h2->K' (.bool true) h2)->pw prog aA ov [.string m,v] h' K' (.func (.yield Y) ⟨[]⟩ ⟨[]⟩))
 (K:aG) (hK:∀ h',Ext h h'->J (eF d who).length h'->K undef h'):Ok prog aA ov 64 [.func (.yield Y) ⟨[]⟩ ⟨[]⟩,.pointer (some ⟨X1,0,none⟩),.pointer (some ⟨X2,0,none⟩),.pointer (some ⟨X3,0,none⟩)] hs K:=by
 rw [ao hs]
 have Cb:∀ (h:Heap) (K:aG),aD (some fv) h K=K fv h:=λ_ _=>rfl
 have Zy:=zkj (who:=who) oH
 have fr:aQ [] hs hs:=aQ.refl [] hs
 refine Ok.aq 19 (bm N64) ?_
 simp only [aa,seval,Bp,q1.lay,q2.lay,↓fN,fw,eU]
 refine zhQ d who p0 p1 p2 p5 p6 q b _ bn (hd.lay _ _) oG mS gV oH _ (λw h' x ms=>?_)
 (replace z:=z.aj x;replace q3:=q3.over x;replace fr:=fr.over x;rw [ao h'])
 have qC:=λ(hh:Heap)=>ms.sl.bt zDR hh
 have j0:=hJ _ _ _ h0 fr
 obtain ⟨hM,pe⟩:∃ hM,hM=h':=⟨_,rfl⟩
 rw [<- pe] at ms
 have k0:eP [9,89] hM h':=by rw [pe];exact eP.refl
 clear fr
 simp only [aa,seval,Bp,qC]
 rw [<- pe] at q3
 obtain ⟨I1,aO⟩:∃ I:Nat->Env->Heap->Prop,I=(λn e h'=>∃ (i:Nat) (h1:Heap),h'=h1.lay [] h1.low/\Ext h h1/\(n=(eF d who).length - i/\i<=(eF d who).length/\J i h1/\eP [9,89] hM h1)/\∃ J:Nat->ae,e=(.func (.yield Y) ⟨[]⟩ ⟨[]⟩::jr J 1 2 (.pointer (some ⟨X3,0,none⟩)::jr J 4 5 (w::.int .i64 (eF d who).length::.int .i64 i::jr J 12 11 ([]))))):=⟨_,rfl⟩
 refine cK I1 _ (by rw [aO];exact ⟨0,_,rfl,z,⟨rfl,by omega,j0,k0⟩,bc⟩) ?_
 intro n e h' aK
 rw [aO] at aK
 obtain ⟨i,bD,rfl,z,hinv,J,rfl⟩:=aK
 clear j0 k0
 obtain ⟨rfl,hi,j,kp⟩:=hinv
 have fb:=dE i (by omega)
 have sw:=uX.keep ms kp (by simp)
 have q4:=kp.holds q3 (by simp)
 have hz:=z.size
 simp only [aa,seval,Bp]
 refine bg (λaP=>?_) (λlq=>?_)
 rotate_left
 .have he:i=(eF d who).length:=by omega
  subst he
  simp only [aa,seval,Bp]
  exact hK _ z.au (hJ _ _ _ j (aQ.lay _ _ _ []))
 obtain ⟨r,hr,bM⟩:=eb (l:=eF d who) (i:=i) (by omega)
 simp only [aa,seval,Bp]
 repeat' ((first|with_reducible refine oT sw cQ mU (by omega) hr (λp hp=>?_)|with_reducible refine fo hp gU ?_) <;> simp only [aa,seval,Bp,q4.lay,Cb])
 have pK:aQ [] bD (bD.lay [] bD.low):=aQ.lay _ _ _ []
 refine has r _ _ z.au (λv h' x hR=>?_)
 have MK:=(aQ.refl [] bD).over x
 have jl:=hJ _ _ _ j pK
 replace kp:=kp.over x
 have z2:=z.aj x
 rw [ao h']
 simp only [aa,seval,Bp]
 rw [<- ao h']
 refine round i r v _ h' _ bM z2 jl (x.ck []) hR (λh2 z3 j2 k2=>?_)
 replace kp:=kp.trans k2
 clear z
 have z:=z3
 rw [ao h2]
 simp only [aa,seval,Bp]
 (with_reducible apply bI);(· rfl)
 simp only [aa,seval,Bp]
 rw [fb]
 (rw [aO];with_reducible refine bS (m:=_) ?_ ⟨i+1,_,rfl,z,⟨rfl,by omega,j2,kp⟩,bc⟩;omega)
theorem zsa {assign body:Code} {e:Env} {p q':Tmp} {hs:Heap} {Q:Ex->Env->Heap->Prop} (d:aw) (who:aB) (p0 p1 p2 p5 p6:ae) (q b:Int) (X1 X2 X3:Nat) (fv:ae) (h:Heap) (z:Ext h hs) (bn:(dw p0 p1 p2 p5 p6 q b).all Am.one=true) (hd:ej hs p0 p1 p2 p5 p6 d) (oG:d.ah.length<=1000) (mS:d.aU.length<=1000) (gV:CI d.ah d.aU) (oH:∀ c∈d.aU,c.reads.length<=40)
 (q1:Holds hs X1 (.row (dw p0 p1 p2 p5 p6 q b) 28 false)) (q2:Holds hs X2 (.row [.string who] 9 false)) (q3:Holds hs X3 (.row [fv] 89 false))
 (J:Nat->Heap->Prop) (hJ:∀ i h1 h2,J i h1->aQ [hs.size] h1 h2->J i h2) (h0:J 0 hs) (R:aB->ae->Heap->Heap->Prop)
 (has:∀ (m:aB) (h':Heap) (K':aG),Ext h h'->(∀ v h2,Ext h' h2->R m v h' h2->K' v h2)->pw prog aA ov [.string m] h' K' fv)
 (round:∀ (i:Nat) (m:aB) (v:ae) (h1 h':Heap),(eF d who)[i]? = some m->Ext h h'->J i h1->aQ [] h1 h'->R m v h1 h'->hs.size < h1.size->W prog aA ov (some hs.size) assign ((e.set p (.string m)).set q' v) h' λx e1 h2=>x=.normal/\Ext h' h2 /\
  ∀ H bk,aQ [hs.size] h' H->Ext h H->Holds H hs.size bk->(∀ cs u ro,bk≠.row cs u ro)->W prog aA ov (some hs.size) body e1 H λx _ h3=>x=.normal/\Ext h h3/\Holds h3 hs.size bk/\J (i+1) h3/\eP [9,89] H h3)
 (jO:∀ h',Ext h h'->J (eF d who).length h'->Q .normal e h'):C1 prog aA ov none (.func (.func 64) ⟨[]⟩ ⟨[.pointer (some ⟨X1,0,none⟩),.pointer (some ⟨X2,0,none⟩),.pointer (some ⟨X3,0,none⟩)]⟩) [p,q'] assign body e hs Q:=by
 have pY:=z.size
 have Ga:∀ (h1:Heap) (b:bh),hs.size < h1.size->fB hs.size h1 (h1.set hs.size b)/\Holds (h1.set hs.size b) hs.size b:=λh1 b aP=>⟨⟨by rw [Heap.size_set];exact bo _,λB hB ba=>by rw [Heap.aR _ _ _ _ aP,az ba],by rw [Heap.bX];omega⟩,⟨by rw [Heap.size_set];exact aP,by rw [Heap.aR _ _ _ _ aP,aE rfl]⟩⟩
 have B4:Ext hs (hs.push (.loop e [p,q'] assign body .ready none)):=⟨by rw [Heap.size_push];omega,λA hA=>by rw [Heap.bx,az (by omega)],by rw [Heap.dv];omega⟩
 have yG:Holds (hs.push (.loop e [p,q'] assign body .ready none)) hs.size (.loop e [p,q'] assign body .ready none):=⟨by rw [Heap.size_push];omega,by rw [Heap.bx,aE rfl]⟩
 refine zlP (by kernel_rfl) ?_
 refine zxW d who p0 p1 p2 p5 p6 q b hs.size X1 X2 X3 fv h _ (z.trans B4) bn (hd.mono B4.inc) oG mS gV oH (q1.ext B4) (q2.ext B4) (q3.ext B4) (λi h'=>J i h'/\Holds h' hs.size (.loop e [p,q'] assign body .ready none)) (λi h1 h2 hj fr=>⟨hJ i h1 h2 hj.1 (fr.mono (λ_ h=>nomatch h)),hj.2.dR fr⟩) ⟨hJ _ _ _ h0 (B4.ck _),yG⟩ R has ?_ _ ?_
 .rintro i m v h1 h' K' hm zz ⟨hj,IE⟩ fr hR hk
  have ha:=IE.dR fr
  refine zl3 (env:=e) (ps:=[p,q']) (assign:=assign) (body:=body) ha.get rfl ?_
  refine W.mono assign _ _ _ _ ?_ (round i m v h1 h' hm zz hj fr hR IE.lt)
  rintro x e1 h2 ⟨hx,x2,hw⟩
  have F3:=ha.ext x2
  obtain ⟨c1,b1⟩:=Ga h2 (.loop e [p,q'] assign body .busy none) F3.lt
  refine ⟨hx,F3.get,W.mono body _ _ _ _ ?_ (hw _ _ ((x2.ck _).trans (c1.ck (D:=[hs.size]) (by simp)) (λB hB=>.inl hB)) ((zz.trans x2).step c1 pY) b1 (by nofun))⟩
  rintro y e2 h3 ⟨rfl,z3,b3,j3,k3⟩
  refine ⟨b3.get,?_⟩
  obtain ⟨c3,b4⟩:=Ga h3 (.loop e [p,q'] assign body .ready none) b3.lt
  have MG:aQ [hs.size] h3 _:=c3.ck (by simp)
  refine hk _ (z3.step c3 pY) ⟨hJ _ _ _ j3 MG,b4⟩ ?_
  have Tv:∀ (g:Heap) (bk:bh),Holds g hs.size bk->(∀ cs u ro,bk≠.row cs u ro)->∀ B∈[hs.size],∀ cs u ro,g.get B=some (.row cs u ro)->u ∉ [9,89]:=λg bk hg hb B hB cs u ro he=>by
   rw [iq.1 hB,hg.get] at he
   exact absurd (Option.some.inj he) (hb cs u ro)
  exact ((eP.ck (D:=[hs.size]) ((x2.ck _).trans (c1.ck (D:=[hs.size]) (by simp)) (λB hB=>.inl hB)) (Tv _ _ ha (by nofun))).trans k3).trans (eP.ck MG (Tv _ _ b3 (by nofun)))
 .rintro h' zz ⟨hj,ha⟩
  refine ⟨_,_,ha.get,.inl ⟨rfl,rfl,?_⟩⟩
  obtain ⟨c3,_⟩:=Ga h' (.loop e [p,q'] assign body .exhausted none) ha.lt
  exact jO _ (zz.step c3 pY) (hJ _ _ _ hj (c3.ck (by simp)))
def N15:=bp f15
def x15:=PLift.up (by have c:=bq N15 f15;simp only [aI,f15,seval] at c;exact nd c <| nd @iF <| nd @bP <| nd @fS <| @Wn)
def Lr:=bp f190
def Qm:=PLift.up (by have c:=bq Lr f190;simp only [aI,f190,seval] at c;exact nd c <| @zGd)
theorem Mm:type_of% Qm.down:=Qm.down
def LQ:=bp f226
def QP:=PLift.up (by have c:=bq LQ f226;simp only [aI,f226,seval] at c;exact nd c <| @zGE)
theorem Mr:type_of% QP.down:=QP.down
def LO:=bp f224
def QN:=PLift.up (by have c:=bq LO f224;simp only [aI,f224,seval] at c;exact nd c <| @zGC)
theorem Mq:type_of% QN.down:=QN.down
def LH:=bp f212
def QG:=PLift.up (by have c:=bq LH f212;simp only [aI,f212,seval] at c;exact nd c <| nd @Al <| @zGv)
theorem oA:type_of% QG.down:=QG.down
def LJ:=bp f214
def QI:=PLift.up (by have c:=bq LJ f214;simp only [aI,f214,seval] at c;exact nd c <| nd @Al <| @zGx)
theorem oB:type_of% QI.down:=QI.down
def LI:=bp f213
def QH:=PLift.up (by have c:=bq LI f213;simp only [aI,f213,seval] at c;exact nd c <| nd @kx <| nd @eC <| nd @ky <| @zGw)
theorem Fq:type_of% QH.down:=QH.down
def LP:=bp f225
def QO:=PLift.up (by have c:=bq LP f225;simp only [aI,f225,seval] at c;exact nd c <| nd @u9 <| @zGD)
theorem V4:type_of% QO.down:=QO.down
def Lq:=bp f189
def Qk:=PLift.up (by have c:=bq Lq f189;simp only [aI,f189,seval] at c;exact nd c <| @zGc)
theorem Bk:type_of% Qk.down:=Qk.down
def KV:=bp f150
def PK:=PLift.up (by have c:=bq KV f150;simp only [aI,f150,seval] at c;exact nd c <| @zFB)
theorem Bf:type_of% PK.down:=PK.down
def KW:=bp f151
def PL:=PLift.up (by have c:=bq KW f151;simp only [aI,f151,seval] at c;exact nd c <| @zFC)
theorem Md:type_of% PL.down:=PL.down
def E7:=bp f192
def Qo:=PLift.up (by have c:=bq E7 f192;simp only [aI,f192,seval] at c;exact nd c <| nd @tY <| nd @qM <| nd @sB <| nd @eC <| @zGf)
theorem Bm:type_of% Qo.down:=Qo.down
def K0:=bp f155
def PQ:=PLift.up (by have c:=bq K0 f155;simp only [aI,f155,seval] at c;exact nd c <| nd @sR <| nd @CY <| nd @w9 <| nd @zD <| nd @pZ <| nd @lx <| nd @jA <| nd @eC <| @zFH)
theorem kg:type_of% PQ.down:=PQ.down
def N36:=bp f36
def x36:=PLift.up (by have c:=bq N36 f36;simp only [aI,f36,seval] at c;exact nd c <| nd @ZT <| nd @lR <| nd @Z4 <| @WG)
theorem Dl:type_of% x36.down:=x36.down
theorem zAh (ls:List (aW)) (v:ae) (h:Heap) (hl:Sl aJ.atoms h v ls) (hn:ls.length<=100) (NQ:ls.flatten.length<=9000) (aP:∀ x∈ls.flatten,x.aV=true) (K:aG)
 (hk:∀ h' w,Ext h h'->eo h h' 34 w (eG ls.flatten)->K w h'):Ok prog aA ov 36 [v] h K:=by
 rw [ao h]
 have z:=Ext.refl h
 refine Ok.aq 17 (bm N36) ?_
 simp only [aa,seval,Dl]
 repeat' ((with_reducible refine uQ hl xN ?_) <;> simp only [aa,seval,Dl])
 obtain ⟨I1,aO⟩:∃ I:Nat->Env->Heap->Prop,I=(λn e h'=>∃ (i:Nat) (w:ae) (A:Nat) (h1:Heap),h'=h1.lay [] h1.low/\Ext h h1/\(n=ls.length - i/\i<=ls.length/\Ow aJ.atom h h1 34 A w (ls.take i).flatten)/\∃ J:Nat->ae,e=(jr J 0 3 (w::jr J 4 2 (v::.int .i64 ls.length::.int .i64 i::jr J 9 9 ([]))))):=⟨_,rfl⟩
 refine cK I1 _ (by rw [aO];exact ⟨0,.slice none 0 0,h.size,_,rfl,z,⟨rfl,by omega,Ow.nil (bo _)⟩,bc⟩) ?_
 intro n e h' aK
 rw [aO] at aK
 obtain ⟨i,w,A,bD,rfl,z,hinv,J,rfl⟩:=aK
 obtain ⟨rfl,hi,ho⟩:=hinv
 have hw:=dE i (by omega)
 have hz:=z.size
 have dn:∀ (h:Heap) (K:aG),aD (some w) h K=K w h:=λ_ _=>rfl
 simp only [aa,seval,Dl]
 refine bg (λgq=>?_) (λgq=>?_)
 rotate_left
 .rw [fX (by omega)] at ho
  repeat' (simp only [aa,seval,Dl])
  refine zpL ls.flatten w _ ((ho.sl (by decide)).lay _ _) (by omega) aP _ (λh' w x ho=>?_)
  replace ho:=ho.down (h0:=h) (by rw [bf];omega)
  (replace z:=z.aj x;rw [ao h'])
  have dn:∀ (h:Heap) (K:aG),aD (some w) h K=K w h:=λ_ _=>rfl
  repeat' (simp only [aa,seval,Dl])
  exact hk _ _ z.au (ho.lay _ _)
 obtain ⟨r,hr,bM⟩:=eb (l:=ls) (i:=i) (by omega)
 simp only [aa,seval,Dl]
 repeat' ((first|with_reducible refine zDW (hl.mono z.inc) xN aaF (by omega) hr (λp b hsb hp=>?_)|with_reducible refine fo hp ta ?_) <;> simp only [aa,seval,Dl])
 simp only [cR,seval,ja,xh]
 have so:(ls.take (i+1)).flatten=(ls.take i).flatten++r:=by rw [nT,bM,List.flatten_append];simp
 have hle:(ls.take i).flatten.length+r.length<=9000:=by
  have h1:ls.flatten.length=(ls.take (i+1)).flatten.length+(ls.drop (i+1)).flatten.length:=by rw [<- cW,<- List.flatten_append,qo]
  rw [so,cW] at h1
  omega
 obtain ⟨news,hs,lQ⟩:=rX (A:=A) (r:=aJ.atom) (by decide) (hsb.lay [] bD.low) (λcs y hr=>hr)
 have dC:=ho.fresh
 refine EB (r:=aJ.atom) bC sJ rfl (by decide) hz ho hs lQ (by omega) (by omega) (λw' h2 A' o2 c2 ra=>?_)
 replace z:=z.au.step c2 (by omega)
 rw [<- so] at o2
 rw [ao h2]
 repeat' (simp only [aa,seval,Dl])
 rw [hw]
 (rw [aO];with_reducible refine bS (m:=_) ?_ ⟨i+1,w',A',_,rfl,z,⟨rfl,by omega,o2⟩,bc⟩;omega)
theorem cJ.Cy {h:Heap} {u:TypeId} {A:Nat} {lw:ae} {lV:List ae} {ls:List (aW)} (f:cJ 1 (λv:ae=>[v]) h u A lw lV) (hl:lV.length=ls.length) (hv:∀ (j:Nat) v l,lV[j]? = some v->ls[j]? = some l->Sl aJ.atom h v l):Sl aJ.atoms h lw ls:=by
 rcases f with ⟨rfl,rfl⟩|⟨q,row,rfl,e2,e3,e4,e5,e6⟩
 .have:ls=[]:=Uo (by simpa using hl.symm)
  subst this
  exact .nil
 .obtain ⟨c1,c2,c3⟩:=Up (k:=1) (q:=q) (by decide) e5
  have hM:(1000000000:Nat)<=maxLen:=by decide
  refine .inr ⟨A,0,G*1+q,row,u,false,by rw [hl],by omega,.inr ⟨c3,c2,by omega⟩,e2.lt,e2.get,λi x hx=>?_⟩
  have hi:=(dz.1 hx).1
  obtain ⟨v,jy⟩:∃ v,lV[i]? = some v:=⟨_,gI (by omega)⟩
  exact ⟨[v],by rw [iu];exact e6 i v jy,v,rfl,hv i v x jy hx⟩
theorem aaK (a) (n c:Nat) (h:Heap) (K:aG):aD (some (.slice a n c)) h K=K (.slice a n c) h:=rfl
theorem zEY:aA.desc 85=some (.slice 44):=by kernel_rfl
theorem zEs:cN aA 85=some 1:=by kernel_rfl
theorem zEm:rW aA 85 85=true:=by kernel_rfl
theorem zmO {Z:Type} {n:Nat}:∀ {ls:List (List Z)},(∀ l∈ls,l.length<=n)->ls.flatten.length<=ls.length*n
 | [],_=>by simp
 |l::r,h=>by
  have ih:=zmO (ls:=r) (λx hx=>h x (gJ _ hx))
  have h1:=h l lj
  rw [List.flatten_cons,cW,de,r9]
  omega
def JA (h:Heap) (X L:Nat) (ms:List aB) (facts:aB->aW) (i:Nat) (h2:Heap):Prop :=
 ∃ A lw lV,cJ 1 (λv:ae=>[v]) h2 44 A lw lV/\Holds h2 X (.row [lw] 85 false)/\lV.length=i/\(∀ (j:Nat) v m,lV[j]? = some v->ms[j]? = some m->Sl aJ.atom (aM [L,X,A] h2) v (facts m))/\A≠X/\A≠L/\h.size<=A/\A < h2.size
theorem JA.ck {h h1 h2:Heap} {X L i:Nat} {ms:List aB} {facts:aB->aW} (f:JA h X L ms facts i h1) (fr:aQ [L] h1 h2) (hX:X≠L):JA h X L ms facts i h2:=by
 obtain ⟨A,lw,lV,e1,e2,e3,e4,e5,e6,e7,e8⟩:=f
 exact ⟨A,lw,lV,e1.ck fr (by simpa using e6),e2.ck fr (by simpa using hX),e3,λj v m h1 h2=>(e4 j v m h1 h2).mono ((fr.mono (D':=[L,X,A]) (by simp)).inc (λB hB=>.inl hB)),e5,e6,e7,eW e8 fr.size⟩
theorem zpM (d:aw) (who:aB) (p0 p1 p2 p5 p6:ae) (q b:Int) (h:Heap) (bn:(dw p0 p1 p2 p5 p6 q b).all Am.one=true) (hd:ej h p0 p1 p2 p5 p6 d) (oG:d.ah.length<=1000) (mS:d.aU.length<=1000) (gV:CI d.ah d.aU) (oH:∀ c∈d.aU,c.reads.length<=40)
 (X:List Nat) (N bb S0:Nat) (E:List Nat) (dd:aw) (qq:Int) (facts:aB->aW) (aX us:aB->Nat) (spx:gi X N bb h S0 E dd qq facts aX us) (jv:∀ w,(facts w).length<=100) (aP:∀ w,∀ x∈facts w,x.aV=true) (K:aG)
 (hk:∀ h' w,Ext h h'->eo h h' 34 w (eG ((eF d who).map facts).flatten)->K w h'):Ok prog aA ov 9 [gC p0 p1 p2 p5 p6 q b,.pointer (some ⟨S0,0,none⟩),.string who] h K:=by
 have Zy:=zkj (who:=who) oH
 have so:((eF d who).map facts).flatten.length<=4100:=by
  have:=zmO (n:=100) (ls:=(eF d who).map facts) (λl hl=>by obtain ⟨w,_,rfl⟩:=ud.1 hl;exact jv w)
  rw [fV] at this
  omega
 have Gh:∀ x∈((eF d who).map facts).flatten,x.aV=true:=λx hx=>by
  obtain ⟨l,hl,vL⟩:=List.mem_flatten.1 hx
  obtain ⟨w,_,rfl⟩:=ud.1 hl
  exact aP w x vL
 rw [ao h]
 have z:=Ext.refl h
 refine Ok.aq 20 (bm N9) ?_
 simp only [aa,seval,c9,jG,↓fN,fw,eU]
 refine zAb p0 p1 p2 p5 p6 q b who _ _ rfl _ (λh' X1 X2 X3 x M1 hX2 Ti q1 q2 q3=>?_)
 have qX:=Holds.top (i:=1) x rfl
 (replace z:=z.aj x;rw [ao h'])
 obtain ⟨P,hP⟩:∃ P,P=h.size+0:=⟨_,rfl⟩
 obtain ⟨XX,hXX⟩:∃ XX,XX=h.size+1:=⟨_,rfl⟩
 rw [<- hXX] at qX
 rw [<- hXX]
 have F1:=qX.lt
 simp only [aa,seval,c9]
 rw [<- ao h']
 obtain ⟨L,hL⟩:∃ L,L=h'.size:=⟨_,rfl⟩
 have Tj:XX≠L:=by omega
 have pY:=z.size
 have hPL:P < h'.size:=by omega
 refine zsa d who p0 p1 p2 p5 p6 q b X1 X2 X3 _ h z bn (hd.mono z.inc) oG mS gV oH q1 q2 q3 (JA h XX L (eF d who) facts) (λi h1 h2 hj fr=>hj.ck (by rw [hL];exact fr) Tj) ⟨P,.slice none 0 0,[],cJ.nil,qX,rfl,λj v m h1=>by simp at h1,by omega,by omega,by omega,hPL⟩ (λm v h1 h2=>∃ A,Ow aJ.atom h1 h2 34 A v (facts m)) (λm hh K' zz jP=>?_) (λi m v g1 g2 hm zz hj fr hR XN=>?_) (λh3 zz hj=>?_)
 .rw [uM]
  exact zxX m dd qq facts aX us hh N bb S0 E (spx.ck (zz.ck [])).un (by have:=jv m;omega) K' (λh2 w A x o=>jP w h2 x ⟨A,o⟩)
 .obtain ⟨Av,o⟩:=hR
  obtain ⟨va,vn,vc,rfl⟩:=rP (o.sl (by decide))
  rw [ao g2]
  simp only [aa,seval,c9]
  refine ⟨(Ext.refl _),λH bk Bz zH qL BD=>?_⟩
  rw [<- hL] at XN qL Bz
  have pK:aQ [L] g1 H:=(fr.mono (D':=[L]) (λ_ h=>nomatch h)).trans Bz (λB hB=>.inl hB)
  obtain ⟨A,lw,lV,u1,u2,u3,u4,u5,u6,u7,u8⟩:=hj
  have e1:=u1.ck pK (by simpa using u6)
  have e2:=u2.ck pK (by simpa using Tj)
  have e4:∀ (j:Nat) v m,lV[j]? = some v->(eF d who)[j]? = some m->Sl aJ.atom (aM [L,XX,A] H) v (facts m):=λj v m h1 h2=>(u4 j v m h1 h2).mono ((pK.mono (D':=[L,XX,A]) (by simp)).inc (λB hB=>.inl hB))
  have hU:Sl aJ.atom (aM [L,XX,A] H) (.slice va vn vc) (facts m):=(o.aM (D:=[L,XX,A]) (λ_ _ _ _ q=>q) (by decide) (λB hB=>by
   simp only [dG,xk,or_false] at hB
   have:=u2.lt
   rcases hB with rfl|rfl|rfl <;> omega)).mono ((Bz.mono (D':=[L,XX,A]) (by simp)).inc (λB hB=>.inl hB))
  have XG:A < H.size:=eW u8 pK.size
  have hLH:=qL.lt
  have jt:=(dz.1 hm).1
  obtain ⟨la,lb,lc,rfl⟩:=e1.shape
  clear u1 u2 u4 o zz z
  have z:=zH
  have hzH:=z.size
  rw [ao H]
  simp only [aa,seval,c9,e2.lay,ja,zEm]
  refine cJ.app (k:=1) (cell:=λv:ae=>[v]) (x:=Value.slice va vn vc) (j:=0) (λ_=>rfl) rfl (by decide) zEY zh1 e1 rfl (by omega) (by omega) (λv3 h3 A3 f3 re IV tA=>?_)
  have c3:=tA XG
  have z3:=z.cx c3 u7 (by omega)
  have mi:=c3.size
  rw [bf] at mi
  simp only [de,dr] at mi
  have q3X:=e2.bj c3 (Ne.symm u5)
  have q3L:=qL.bj c3 (Ne.symm u6)
  have MP:A3≠XX:=λe=>by
   rcases f3 with ⟨_,h0⟩|⟨qq,row,_,GJ,_⟩
   .simp at h0
   .have:=GJ.get.symm.trans (e ▸ q3X.get)
    simp only [dY,bh.row.injEq] at this
    exact absurd this.2.1 (by decide)
  have XF:A3≠L:=λe=>by
   rcases f3 with ⟨_,h0⟩|⟨qq,row,_,GJ,_⟩
   .simp at h0
   .exact BD _ _ _ (Option.some.inj (q3L.get.symm.trans (e ▸ GJ.get)))
  have xR:h.size<=A3/\(A3=A\/H.size<=A3):=by
   rcases re with ⟨e,_⟩|e
   .exact ⟨by omega,.inl e⟩
   .rw [bf] at e
    exact ⟨by omega,.inr (by omega)⟩
  have kp3:eP [9,89] H h3:=by
   by_cases mE:Value.slice la lb lc=.slice none 0 0
   .exact eP.ck (D:=[]) ((aQ.refl [] H).over (IV mE)) (λ_ h=>nomatch h)
   .refine eP.ck (D:=[A]) ((aQ.refl [A] H).iW c3 (.inl (by simp))) (λB hB cs e ro he=>?_)
    rw [iq.1 hB] at he
    rcases e1 with ⟨h0,_⟩|⟨qq,row,_,GJ,_⟩
    .exact absurd h0 mE
    .have:=GJ.get.symm.trans he
     simp only [dY,bh.row.injEq] at this
     rw [<- this.2.1]
     decide
  have fI:aQ [L,XX,A] H h3:=(aQ.refl [L,XX,A] H).iW c3 (.inl (by simp))
  obtain ⟨xa,xn,xc,rfl⟩:=f3.shape
  clear z IV tA
  have z:=z3
  rw [ao h3]
  simp only [aa,seval,c9]
  refine CH (o:=0) q3X zEs rfl rfl (by show 0+1<=1;decide) rfl (λh4 q4X c4=>?_)
  replace q4X:Holds h4 XX (.row [.slice xa xn xc] 85 false):=q4X
  have z4:=z.cx c4 (by omega) (by omega)
  have f4:=f3.bj c4 MP
  have q4L:=q3L.bj c4 (Ne.symm Tj)
  have uG:=c4.size
  rw [bf] at uG
  have Td:aQ [XX] h3 h4:=(aQ.refl [XX] h3).iW c4 (.inl (by simp))
  have jm:aQ [L,XX,A] H h4:=fI.trans Td (λB hB=>.inl (by rw [iq.1 hB];simp))
  have kp4:eP [9,89] H h4:=kp3.trans (eP.ck Td (λB hB cs e ro he=>by
   rw [iq.1 hB,q3X.get] at he
   simp only [dY,bh.row.injEq] at he
   rw [<- he.2.1]
   decide))
  have tu:∀ B∈[L,XX,A3],B∈[L,XX,A]\/H.size<=B:=λB hB=>by
   simp only [dG,xk,or_false] at hB ⊢
   rcases hB with rfl|rfl|rfl
   .exact .inl (.inl rfl)
   .exact .inl (.inr (.inl rfl))
   .exact xR.2.imp (λe=>.inr (.inr e)) id
  have Nc:∀ {v:ae} {l:aW},Sl aJ.atom (aM [L,XX,A] H) v l->Sl aJ.atom (aM [L,XX,A3] h4) v l:=λs=>s.mono (jm.inc tu)
  have hj:JA h XX L (eF d who) facts (i+1) h4:=⟨A3,_,_,f4,q4X,by rw [cW,u3];rfl,λj v m' h1 h2=>by
   rw [xj] at h1
   split at h1
   .exact Nc (e4 j v m' h1 h2)
   .have hj0:=(dz.1 h1).1
    simp only [sW] at hj0
    have j6:j=i:=by omega
    subst j6
    rw [u3,Df,AH] at h1
    cases h1
    rw [hm] at h2
    cases h2
    exact Nc hU,MP,XF,xR.1,eW (f3.lt (by simp)) (by omega)⟩
  rw [ao h4]
  simp only [aa,seval,c9]
  have fl:aQ [] h4 (h4.lay [] h4.low):=aQ.lay _ _ _ _
  exact ⟨z4.au,hL ▸ q4L.on _ _,hj.ck (fl.mono (λ_ h=>nomatch h)) Tj,kp4.trans (eP.ck fl (λ_ h=>nomatch h))⟩
 .obtain ⟨A,lw,lV,e1,e2,e3,e4,e5,e6,e7,e8⟩:=hj
  obtain ⟨la,lb,lc,rfl⟩:=e1.shape
  have mF:Sl aJ.atoms h3 (.slice la lb lc) ((eF d who).map facts):=cJ.Cy e1 (by rw [fV];exact e3) (λj v l h1 h2=>by
   rw [lB] at h2
   cases h5:(eF d who)[j]? with
   |none=>rw [h5] at h2;cases h2
   |some m =>
    rw [h5] at h2
    cases h2
    exact (e4 j v m h1 h5).mono (tT _ _))
  clear z
  have z:=zz
  have Cf:=z.size
  rw [ao h3]
  simp only [aa,seval,c9,e2.lay]
  refine zAh ((eF d who).map facts) _ _ (mF.lay _ _) (by rw [fV];omega) (by omega) Gh _ (λh' w x ho=>?_)
  replace ho:=ho.down (h0:=h) (by rw [bf];omega)
  (replace z:=z.aj x;rw [ao h'])
  simp only [aa,seval,c9]
  exact hk _ _ z.au (ho.lay _ _)
theorem zm8 (c:Int) (h:Heap) (K:aG) (h1:(97<=c/\c<=122)->K (.bool true) h) (h2:¬ (97<=c/\c<=122)->K (.bool false) h):Ok prog aA ov 190 [.int .u8 c] h K:=by
 refine Ok.aq 8 (bm Lr) ?_
 simp only [aa,seval,Mm]
 repeat' (refine bg (λc=>?_) (λc=>?_) <;> simp only [aa,seval,Mm])
 all_goals first|exact h1 (by omega)|exact h2 (by omega)
theorem ztm (c:Int) (h:Heap) (K:aG) (h1:(65<=c/\c<=90)->K (.bool true) h) (h2:¬ (65<=c/\c<=90)->K (.bool false) h):Ok prog aA ov 226 [.int .u8 c] h K:=by
 refine Ok.aq 8 (bm LQ) ?_
 simp only [aa,seval,Mr]
 repeat' (refine bg (λc=>?_) (λc=>?_) <;> simp only [aa,seval,Mr])
 all_goals first|exact h1 (by omega)|exact h2 (by omega)
theorem ztk (c:Int) (h:Heap) (K:aG) (h1:(48<=c/\c<=57)->K (.bool true) h) (h2:¬ (48<=c/\c<=57)->K (.bool false) h):Ok prog aA ov 224 [.int .u8 c] h K:=by
 refine Ok.aq 8 (bm LO) ?_
 simp only [aa,seval,Mq]
 repeat' (refine bg (λc=>?_) (λc=>?_) <;> simp only [aa,seval,Mq])
 all_goals first|exact h1 (by omega)|exact h2 (by omega)
theorem zrS (s:aB) (h:Heap) (K:aG) (h1:AD s->∀ h',Ext h h'->K (.bool true) h') (h2:∀ h',Ext h h'->K (.bool false) h'):Ok prog aA ov 212 [.string s] h K:=by
 rw [ao h]
 have z:=Ext.refl h
 refine Ok.aq 40 (bm LH) ?_
 simp only [aa,seval,oA]
 refine bg (λc=>?_) (λc1=>?_)
 .simp only [aa,seval,oA]
  exact h2 _ z.au
 simp only [aa,seval,oA]
 refine bg (λc=>?_) (λc2=>?_)
 .simp only [aa,seval,oA]
  exact h2 _ z.au
 simp only [aa,seval,oA]
 refine Hx underlying9 rfl rfl (by omega) (by omega) ?_
 simp only [aa,seval,oA]
 refine lz (λc=>?_) (λc=>?_)
 .simp only [aa,seval,oA]
  exact h2 _ z.au
 repeat' (simp only [aa,seval,oA])
 obtain ⟨I1,aO⟩:∃ I:Nat->Env->Heap->Prop,I=(λn e h'=>∃ (i:Nat) (h1:Heap),h'=h1.lay [] h1.low/\Ext h h1/\(n=s.size - i/\i<=s.size/\∀ j,j < i->rZ (lW s j))/\∃ J:Nat->ae,e=(.string s::jr J 1 2 (.int .i64 i::jr J 4 37 ([])))):=⟨_,rfl⟩
 refine cK I1 _ (by rw [aO];exact ⟨0,_,rfl,z,⟨rfl,by omega,λj hj=>by omega⟩,bc⟩) ?_
 intro n e h' aK
 rw [aO] at aK
 obtain ⟨i,bD,rfl,z,hinv,J,rfl⟩:=aK
 obtain ⟨rfl,hi,aC⟩:=hinv
 have hw:=dE i (by omega)
 simp only [aa,seval,oA]
 repeat' ((first|((with_reducible first|apply bg|apply im) <;> intro _)|with_reducible refine zm8 _ _ _ (λ_=>?_) (λ_=>?_)|with_reducible refine ztk _ _ _ (λ_=>?_) (λ_=>?_)|((with_reducible apply Hx);(· exact underlying9);(· rfl);(· rfl);(· omega);(· omega))|((with_reducible apply bI);(· rfl))) <;> simp only [aa,seval,oA,hw])
 all_goals first
  |with_reducible exact h2 _ z.au
  |(with_reducible refine h1 ?_ _ z.au
    exact ⟨by omega,λj hj=>aC j (by omega)⟩)
  |(have oF:∀ j,j < i+1->rZ (lW s j):=by
     intro j hj
     by_cases j6:j < i
     .exact aC j j6
     .have:j=i:=by omega
      subst this
      unfold rZ
      omega
    (rw [aO];with_reducible refine bS (m:=_) ?_ ⟨i+1,_,rfl,z,⟨rfl,by omega,oF⟩,bc⟩;omega))
theorem zr5 (s:aB) (h:Heap) (K:aG) (h1:U1 s->∀ h',Ext h h'->K (.bool true) h') (h2:∀ h',Ext h h'->K (.bool false) h'):Ok prog aA ov 214 [.string s] h K:=by
 rw [ao h]
 have z:=Ext.refl h
 refine Ok.aq 48 (bm LJ) ?_
 simp only [aa,seval,oB]
 refine bg (λc=>?_) (λc1=>?_)
 .simp only [aa,seval,oB]
  exact h2 _ z.au
 simp only [aa,seval,oB]
 refine bg (λc=>?_) (λc2=>?_)
 .simp only [aa,seval,oB]
  exact h2 _ z.au
 simp only [aa,seval,oB]
 refine Hx underlying9 rfl rfl (by omega) (by omega) ?_
 simp only [aa,seval,oB]
 refine ztm _ _ _ (λcg=>?_) (λcg=>?_)
 rotate_left
 .repeat' (first|simp only [aa,seval,oB]|((with_reducible apply bI);(· rfl)))
  exact h2 _ z.au
 repeat' (first|simp only [aa,seval,oB]|((with_reducible apply bI);(· rfl)))
 obtain ⟨I1,aO⟩:∃ I:Nat->Env->Heap->Prop,I=(λn e h'=>∃ (i:Nat) (h1:Heap),h'=h1.lay [] h1.low/\Ext h h1/\(n=s.size - i/\i<=s.size/\∀ j,j < i->lT (lW s j))/\∃ J:Nat->ae,e=(.string s::jr J 1 2 (.int .i64 i::jr J 4 45 ([])))):=⟨_,rfl⟩
 refine cK I1 _ (by rw [aO];exact ⟨0,_,rfl,z,⟨rfl,by omega,λj hj=>by omega⟩,bc⟩) ?_
 intro n e h' aK
 rw [aO] at aK
 obtain ⟨i,bD,rfl,z,hinv,J,rfl⟩:=aK
 obtain ⟨rfl,hi,aC⟩:=hinv
 have hw:=dE i (by omega)
 simp only [aa,seval,oB]
 repeat' ((first|((with_reducible first|apply bg|apply im) <;> intro _)|with_reducible refine zm8 _ _ _ (λ_=>?_) (λ_=>?_)|with_reducible refine ztk _ _ _ (λ_=>?_) (λ_=>?_)|with_reducible refine ztm _ _ _ (λ_=>?_) (λ_=>?_)|((with_reducible apply Hx);(· exact underlying9);(· rfl);(· rfl);(· omega);(· omega))|((with_reducible apply bI);(· rfl))) <;> simp only [aa,seval,oB,hw])
 all_goals first
  |with_reducible exact h2 _ z.au
  |(with_reducible refine h1 ?_ _ z.au
    exact ⟨by omega,by simpa using cg,λj hj=>aC j (by omega)⟩)
  |(have oF:∀ j,j < i+1->lT (lW s j):=by
     intro j hj
     by_cases j6:j < i
     .exact aC j j6
     .have:j=i:=by omega
      subst this
      unfold lT
      omega
    (rw [aO];with_reducible refine bS (m:=_) ?_ ⟨i+1,_,rfl,z,⟨rfl,by omega,oF⟩,bc⟩;omega))
theorem zr0 (s:aB) (h:Heap) (K:aG) (hk:∀ b h',Ext h h'->K (.bool b) h'):Ok prog aA ov 213 [.string s] h K:=by
 rw [ao h]
 have z:=Ext.refl h
 refine Ok.aq 17 (bm LI) ?_
 simp only [aa,seval,Fq]
 refine Ok.aq 2 (bm LP) ?_
 simp only [aa,seval,Fq,V4]
 repeat' ((first|((with_reducible apply bg) <;> intro _)|with_reducible refine Ry ?_) <;> simp only [aa,seval,Fq])
 all_goals exact hk _ _ z.au
theorem ztj (s:aB) (h:Heap) (K:aG) (h1:AD s->∀ h',Ext h h'->K (.bool true) h') (h2:∀ h',Ext h h'->K (.bool false) h'):Ok prog aA ov 189 [.string s] h K:=by
 rw [ao h]
 have z:=Ext.refl h
 refine Ok.aq 9 (bm Lq) ?_
 simp only [aa,seval,Bk]
 refine zrS _ _ _ (λhs h' x=>?_) (λh' x=>?_)
 ·(replace z:=z.aj x;rw [ao h'])
  simp only [aa,seval,Bk]
  refine zr0 _ _ _ (λb h' x=>?_)
  (replace z:=z.aj x;rw [ao h'])
  cases b
  all_goals
   repeat' (first|simp only [aa,seval,Bk]|((with_reducible apply bI);(· rfl)))
   first
    |with_reducible exact h1 hs _ z.au
    |with_reducible exact h2 _ z.au
 ·(replace z:=z.aj x;rw [ao h'])
  simp only [aa,seval,Bk]
  exact h2 _ z.au
theorem zfP (s:aB) (h:Heap) (K:aG) (h1:AD s->∀ h',Ext h h'->K (.bool true) h') (h2:∀ h',Ext h h'->K (.bool false) h'):Ok prog aA ov 150 [.string s] h K:=by
 rw [ao h]
 have z:=Ext.refl h
 refine Ok.aq 9 (bm KV) ?_
 simp only [aa,seval,Bf]
 refine ztj _ _ _ (λhs h' x=>?_) (λh' x=>?_)
 ·(replace z:=z.aj x;rw [ao h'])
  have:=hs.1
  simp only [aa,seval,Bf]
  repeat' ((first|with_reducible refine zm8 _ _ _ (λ_=>?_) (λ_=>?_)|((with_reducible apply Hx);(· exact underlying9);(· rfl);(· rfl);(· omega);(· omega))) <;> simp only [aa,seval,Bf])
  all_goals first
   |with_reducible exact h1 hs _ z.au
   |with_reducible exact h2 _ z.au
 ·(replace z:=z.aj x;rw [ao h'])
  simp only [aa,seval,Bf]
  exact h2 _ z.au
theorem zio (s:aB) (h:Heap) (K:aG) (h1:AD s->∀ h',Ext h h'->K (.bool true) h') (h2:∀ h',Ext h h'->K (.bool false) h'):Ok prog aA ov 151 [.string s] h K:=by
 rw [ao h]
 have z:=Ext.refl h
 refine Ok.aq 4 (bm KW) ?_
 simp only [aa,seval,Md]
 refine zfP _ _ _ (λhs h' x=>?_) (λh' x=>?_)
 all_goals
  (replace z:=z.aj x;rw [ao h'])
  simp only [aa,seval,Md]
  first
   |with_reducible exact h1 hs _ z.au
   |with_reducible exact h2 _ z.au
end Go.Proofs.YtkgojconmeeegaaGreatDoor
