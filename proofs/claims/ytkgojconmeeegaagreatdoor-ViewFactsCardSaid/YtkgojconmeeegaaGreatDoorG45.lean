/- Walks: what is gone through, on; lists of one's own. Written out by fill2.py. No condition. -/
import Derived.Test.YtkgojconmeeegaaGreatDoorG44
set_option linter.unusedSimpArgs false
set_option linter.unusedVariables false
set_option maxRecDepth 100000
set_option maxHeartbeats 0
namespace Go.Proofs.YtkgojconmeeegaaGreatDoor
open Go.Am
def AL (n m:Int):Int:=if m < 1 then 0 else if n.tmod m < 0 then n.tmod m+m else n.tmod m
theorem zAy (n m:Int) (hm:1<=m):0<=AL n m/\AL n m < m:=by
 unfold AL
 rw [az (by omega)]
 have h1:=Int.tmod_lt_of_pos n (show 0 < m by omega)
 have h2:=Int.lt_tmod_of_pos n (show 0 < m by omega)
 split <;> omega
end Go.Proofs.YtkgojconmeeegaaGreatDoor
namespace Go.Proofs.YtkgojconmeeegaaGreatDoor
open Go.Am Tryz
theorem zC1 (n m:Int) (h:Heap) (K:aG) (hm:m<=4611686018427387904) (hk:K (.int .i64 (AL n m)) h):Ok prog aA ov 11 [.int .i64 n,.int .i64 m] h K:=by
 refine Ok.aq 15 (bm N11) ?_
 simp only [aa,seval,Io]
 refine bg (λc=>?_) (λc=>?_)
 .simp only [aa,seval,Io]
  have:AL n m=0:=by unfold AL;rw [aE c]
  rw [this] at hk
  exact hk
 have hb:=zAy n m (by omega)
 have hd:AL n m=if n.tmod m < 0 then n.tmod m+m else n.tmod m:=by unfold AL;rw [az c]
 simp only [aa,seval,Io]
 rw [zB6 (by omega)]
 simp only [aa,seval,Io]
 refine bg (λc2=>?_) (λc2=>?_)
 .rw [aE c2] at hd
  rw [hd] at hk hb
  simp only [aa,seval,Io]
  rw [wrap_i64 (by omega) (by omega)]
  exact hk
 .rw [az c2] at hd
  rw [hd] at hk
  simp only [aa,seval,Io]
  exact hk
end Go.Proofs.YtkgojconmeeegaaGreatDoor
namespace Go.Proofs.YtkgojconmeeegaaGreatDoor
open Go.Am
theorem ztA (k:Int):(AL k 2=0)↔k.tmod 2=0:=by
 unfold AL
 rw [az (by omega)]
 have h1:=Int.tmod_lt_of_pos k (show (0:Int) < 2 by omega)
 have h2:=Int.lt_tmod_of_pos k (show (0:Int) < 2 by omega)
 split <;> omega
end Go.Proofs.YtkgojconmeeegaaGreatDoor
namespace Go.Proofs.YtkgojconmeeegaaGreatDoor
open Go.Am Tryz
variable {h:Heap} {d:aw} {N:Nat}
theorem aQ.MB {X:List Nat} {h2:Heap} (f:aQ X h h2):aQ [] (aM X h) (aM X h2):=by
 refine ⟨by rw [iQ,iQ];exact f.size,λB hB _=>?_⟩
 rw [iQ] at hB
 by_cases hx:B∈X
 .rw [Aq hx hB,Aq hx (eW hB f.size)]
 .rw [pn hx,pn hx]
  exact f.get B hB hx
theorem gi.other {X:List Nat} {b:Nat} {h2:Heap} {S0:Nat} {E:List Nat} {q:Int} {facts:aB->aW} {aX us:aB->Nat} (s:gi X N b h S0 E d q facts aX us) (f:aQ X h h2):gi X N b h2 S0 E d q facts aX us:=⟨s.1.ck (aQ.MB f),s.2.1,λB hB=>eW (s.2.2 B hB) f.size⟩
theorem zkG (l:List lC) (v:ae) (h:Heap) (hl:Sl aJ.act h v l) (K:aG)
 (oZ:l.length<=40->(∀ c∈l,c.s.size<=300/\c.a.aV=true)->∀ h',Ext h h'->K (.bool true) h') (iJ:∀ h',Ext h h'->K (.bool false) h'):Ok prog aA ov 7 [v] h K:=by
 rw [ao h]
 have z:=Ext.refl h
 have cO:=λ(hh:Heap)=>hl.bt nj hh
 refine Ok.aq 28 (bm N7) ?_
 simp only [aa,seval,c7]
 obtain ⟨I1,aO⟩:∃ I:Nat->Env->Heap->Prop,I=(λn e h'=>∃ (i:Nat) (h1:Heap),h'=h1.lay [] h1.low/\Ext h h1/\(n=l.length - i/\i<=l.length/\(∀ c∈l.take i,c.s.size<=300/\c.a.aV=true))/\∃ J:Nat->ae,e=(v::jr J 1 2 (.int .i64 i::jr J 4 25 ([])))):=⟨_,rfl⟩
 refine cK I1 _ (by rw [aO];exact ⟨0,_,rfl,z,⟨rfl,by omega,by simp⟩,bc⟩) ?_
 intro n e h' aK
 rw [aO] at aK
 obtain ⟨i,bD,rfl,z,hinv,J,rfl⟩:=aK
 obtain ⟨rfl,hi,aC⟩:=hinv
 have hle:=hl.le
 simp only [aa,seval,c7,cO]
 refine bg (λaP=>?_) (λlq=>?_)
 .obtain ⟨r,hr,bM⟩:=eb (l:=l) (i:=i) (by omega)
  have fb:IntKind.i64.wrap ((i:Int)+1)=((i+1:Nat):Int):=by unfold maxLen at hle;rw [wrap_i64 (by omega) (by omega)];omega
  simp only [aa,seval,c7]
  repeat' ((first|((with_reducible apply bg) <;> intro _)|with_reducible_and_instances refine Kb (hl.mono z.inc) nj tO (by omega) hr (λp hp=>?_)|with_reducible_and_instances refine Sj hp EI (λqq hq=>?_)|with_reducible_and_instances refine fo hq gU ?_|with_reducible_and_instances refine Sa hp EJ (λqq hq=>?_)|with_reducible_and_instances refine ly hq eK bE ?_|((with_reducible_and_instances refine Rx _ _ _ (λIJ h' x=>?_) (λIJ h' x=>?_)) <;> (replace z:=z.aj x;rw [ao h']))|((with_reducible_and_instances apply bI);(· rfl))) <;> simp only [aa,seval,c7])
  all_goals first
   |exact iJ _ z.au
   |(rw [fb]
     (rw [aO];with_reducible refine bS (m:=_) ?_ ⟨i+1,_,rfl,z,⟨rfl,by omega,mL (i:=i) (P:=λc:lC=>c.s.size<=300/\c.a.aV=true) bM aC ⟨by omega,IJ⟩⟩,bc⟩;omega))
 .rw [fX (by omega)] at aC
  simp only [aa,seval,c7,cO]
  refine bg (λhle=>?_) (λtD=>?_)
  .simp only [aa,seval,c7]
   exact oZ (by omega) aC _ z.au
  .simp only [aa,seval,c7]
   exact iJ _ z.au
theorem lF.down {N2 S2 NB k:Nat} (f:lF N h S2 NB d k) (hN:N2<=N):lF N2 h S2 NB d k:=by
 obtain ⟨p0,p1,p2,p5,p6,q,b,nv,rows,e1,e2,e3,e4,e5,e6,e7,e8,e9⟩:=f
 exact ⟨p0,p1,p2,p5,p6,q,b,nv,rows,e1,e2,e3,e4,e5,e6,by omega,by omega,e9⟩
theorem lF.nb {S2 NB k:Nat} (f:lF N h S2 NB d k):N<=NB/\NB < h.size:=by
 obtain ⟨p0,p1,p2,p5,p6,q,b,nv,rows,e1,e2,e3,e4,e5,e6,e7,e8,e9⟩:=f
 exact ⟨e8,e9⟩
theorem zCS (d:aw) (l:List lC) (p0 p1 p2 p5 p6 lv:ae) (q b:Int) (h:Heap) (cP:bl 1 h) (hd:ej h p0 p1 p2 p5 p6 d) (hq:d.iO=q) (hb:d.fE=b) (XV:A4 d) (sx:d.ah.length<=70) (IK:d.cp.length<=70) (yg:d.aU.length<=70) (hl:Sl aJ.act h lv l) (BR:l.length<=40) (aP:∀ c∈l,c.s.size<=300/\c.a.aV=true) (K:aG)
 (oZ:∀ h',Ext h h'->K (.tuple #[.pointer none,.pointer none,.bool false]) h')
 (iJ:zB d=0->∀ h' S0 S2 E facts aX us,Ext h h'->gi [] h.size (4*l.length) h' S0 E d q facts aX us->dH d l.length facts aX us->K (.tuple #[.pointer (some ⟨S0,0,none⟩),.pointer (some ⟨S2,0,none⟩),.bool true]) h'):Ok prog aA ov 8 [gC p0 p1 p2 p5 p6 q b,lv] h K:=by
 have bn:=hd.one q b
 rw [ao h]
 have z:=Ext.refl h
 have DM:=λ(hh:Heap)=>hl.bt nj hh
 refine Ok.aq 89 (bm N8) ?_
 simp only [aa,seval,c8,jG,↓fN,fw,eU]
 refine zCY d _ _ _ _ _ q b _ (cP.lay _ _) bn (hd.lay _ _) hq hb XV (by omega) (by omega) [] (λ_ h=>nomatch h) _ (λba h' x=>?_) (λheq h' S0 E0 x dq=>?_)
 .have qP:=Holds.top (i:=0) x rfl
  (replace z:=z.aj x;rw [ao h'])
  simp only [aa,seval,c8,qP.lay,↓fN,fw,eU]
  refine zx5 d _ _ _ _ _ q b _ bn ((hd.mono z.inc).lay _ _) yg sx [] (λ_ h=>nomatch h) ((hd.mono z.inc).lay _ _) _ (λc h' _ x=>?_) (λh' S2 NB x _=>?_)
  all_goals
   (replace z:=z.aj x;replace qP:=qP.over x;rw [ao h'])
   simp only [aa,seval,c8]
   refine im (λ_=>?_) (λhe=>absurd he ba)
   simp only [aa,seval,c8]
   exact oZ _ z.au
 have qP:=Holds.top (i:=0) x rfl
 replace dq:=dq.down (N2:=h.size) (by rw [bf];omega)
 have Ou:=dH.empty d
 obtain ⟨i6,kT⟩:=zgx heq
 (replace z:=z.aj x;rw [ao h'])
 have oE:=dq.lt.2
 simp only [aa,seval,c8,qP.lay,↓fN,fw,eU]
 refine zx5 d _ _ _ _ _ q b _ bn ((hd.mono z.inc).lay _ _) yg sx E0 (λB hB=>by rw [bf];have:=(oE B hB).2;omega) (hd.mono (zpa (z.inc.trans (b8.lay _ _ _)) (λB hB=>(oE B hB).1))) _ (λc h' hc x=>?_) (λhT S2 NB x sd=>?_)
 ·(replace z:=z.aj x;( replace qP:=qP.over x );( replace dq:=dq.over x );rw [ao h'])
  simp only [aa,seval,c8]
  refine im (λ_=>?_) (λhe=>absurd he hc)
  simp only [aa,seval,c8]
  exact oZ _ z.au
 have hNB:=sd.nb
 rw [iQ] at hNB
 replace dq:=(dq.lay _ _).fresh (X:=[NB]) (x.ck []) (λB hB=>by rw [iq.1 hB];exact hNB)
 replace sd:=sd.down (N2:=h.size) (by rw [bf];have:=z.size;omega)
 replace z:=z.aj x
 have hzT:=z.size
 rw [ao hT]
 simp only [aa,seval,c8]
 obtain ⟨I1,aO⟩:∃ I:Nat->Env->Heap->Prop,I=(λn e h'=>∃ (i:Nat) (E:List Nat) (facts:aB->aW) (aX us:aB->Nat) (h1:Heap),h'=h1.lay [] h1.low/\Ext h h1/\(n=l.length - i/\i<=l.length/\gi [NB] h.size (4*i) h1 S0 E d q facts aX us/\lF h.size (aM E h1) S2 NB d i/\dH d i facts aX us)/\∃ J:Nat->ae,e=(J 0::lv::jr J 2 5 (.pointer (some ⟨S0,0,none⟩)::J 8::.pointer (some ⟨S2,0,none⟩)::J 10::.int .i64 i::jr J 12 79 ([])))):=⟨_,rfl⟩
 refine cK I1 _ (by rw [aO];exact ⟨0,E0,_,_,_,_,rfl,z,⟨rfl,by omega,dq,sd,Ou⟩,bc⟩) ?_
 intro n e h' aK
 rw [aO] at aK
 obtain ⟨i,E,facts,aX,us,bD,rfl,z,hinv,J,rfl⟩:=aK
 clear dq sd Ou
 obtain ⟨rfl,hi,dq,sd,inv⟩:=hinv
 have fb:=dE i (by omega)
 have hz:=z.size
 simp only [aa,seval,c8,DM]
 refine bg (λNH=>?_) (λlq=>?_)
 rotate_left
 .have jt:i=l.length:=by omega
  subst jt
  simp only [aa,seval,c8]
  exact iJ heq _ S0 S2 E _ _ us z.au ((dq.lay _ _).by (aQ.refl _ _)) inv
 obtain ⟨r,hr,bM⟩:=eb (l:=l) (i:=i) (by omega)
 have oH:=(aP r (ig bM)).2
 have jv:=inv.len r.s
 have oJ:=inv.Eh r.s
 have hNE:∀ B∈E,B≠NB:=λB hB e=>dq.2.1 B hB (by simp [e])
 repeat' (first|simp only [aa,seval,c8]|with_reducible_and_instances refine Kb (hl.mono z.inc) nj tO (by omega) hr (λp hp=>?_)|with_reducible_and_instances refine zDU hp zxc (λqq hq=>?_)|with_reducible_and_instances refine fo hq SS ?_)
 refine zC1 r.k 2 _ _ (by decide) ?_
 simp only [aa,seval,c8]
 refine bg (λhp=>?_) (λhp=>?_)
 focus
  have Ac:OG d q r (facts r.s)=jW d q r.s r.a (facts r.s):=aE ((ztA r.k).1 hp)
  simp only [aa,seval,c8]
  with_reducible first|refine cZ (by simp only [c8]) z.au ?_
  repeat' (first|simp only [aa,seval,c8]|with_reducible_and_instances refine Kb (hl.mono z.inc) nj tO (by omega) hr (λp hp=>?_)|with_reducible_and_instances refine Sj hp EI (λqq hq=>?_)|with_reducible_and_instances refine Sa hp EJ (λqq hq=>?_)|with_reducible_and_instances refine fo hq gU ?_|with_reducible_and_instances refine ly hq eK bE ?_)
  refine zuY d q r.s r.a facts aX us h _ z.au h.size (4*i) i S0 E rfl [NB] (dq.lay _ _) inv i6 kT ((cP.ext z).lay _ _) oH (by omega) (by omega) _ (λh3 E2 oa z2 f2 FV nI inv2=>?_)
  have mi:=f2.size
  rw [bf] at mi
  refine Ar (by kernel_rfl) z2.low (by rw [bf];exact mi) ?_
  have Cw:=sd.beside (E2:=E2) ((aQ.lay bD [] _ E).trans f2 (λB hB=>.inl hB)) (λB hB=>(FV B hB).imp id (λe=>by rw [bf] at e;omega))
  have lu:=z2.size
  clear z dq sd
  have z:=z2
  rw [ao h3]
  simp only [cR,seval,c8]
  ((with_reducible refine ⟨z.bZ.lay _ _,?_⟩);(intro _ h6 zz x _);(simp only [bG,bu] at x))
  replace nI:=nI.over x
  replace Cw:=Cw.dR ((aQ.refl [] h3).over x)
  clear z
  have z:=zz
  rw [ao h6]
  simp only [syms,seval]
  with_reducible first|refine cZ (by simp only [c8]) z.au ?_
  simp only [aa,seval,c8]
  repeat' ((first|with_reducible_and_instances refine Kb (hl.mono z.inc) nj tO (by omega) hr (λp hp=>?_)|with_reducible_and_instances refine Sj hp EI (λqq hq=>?_)|with_reducible_and_instances refine Sa hp EJ (λqq hq=>?_)|with_reducible_and_instances refine fo hq gU ?_|with_reducible_and_instances refine ly hq eK bE ?_) <;> simp only [aa,seval,c8])
  have FW:=nI.lt.2
  have XO:NB ∉ E2:=λhm=>nI.2.1 NB hm (by simp)
  refine zuW d i r.s r.a h _ z.au h.size S2 NB rfl E2 (λB hB=>by rw [bf];have:=(FW B hB).2;omega) (Cw.dR (aQ.lay _ _ _ _)) XO (by omega) oH _ (λh7 bb ee z7 f7 He=>?_)
  have IP:=f7.size
  rw [bf] at IP
  refine Ar (by kernel_rfl) z7.low (by rw [bf];exact IP) ?_
  have Cz:=nI.other ((aQ.lay h6 [] _ [NB]).trans f7 (λB hB=>.inl hB))
  clear z nI Cw
  have z:=z7
  rw [ao h7]
  simp only [cR,seval,c8]
  ((with_reducible refine ⟨z.bZ.lay _ _,?_⟩);(intro _ h8 zz x _);(simp only [bG,bu] at x))
  replace Cz:=Cz.over x
  replace He:=He.dR ((aQ.refl [] h7).over x)
  rw [<- Ac] at Cz inv2
  clear z
  have z:=zz
  rw [ao h8]
  simp only [aa,seval,c8]
  rw [fb]
  (rw [aO];with_reducible refine bS (m:=_) ?_ ⟨i+1,E2,_,_,oa,_,rfl,z,⟨rfl,by omega,Cz,He,inv2⟩,bc⟩;omega)
 focus
  have Ac:OG d q r (facts r.s)=kZ d r.s r.a (facts r.s):=az (λe=>hp ((ztA r.k).2 e))
  simp only [aa,seval,c8]
  with_reducible first|refine cZ (by simp only [c8]) z.au ?_
  repeat' (first|simp only [aa,seval,c8]|with_reducible_and_instances refine Kb (hl.mono z.inc) nj tO (by omega) hr (λp hp=>?_)|with_reducible_and_instances refine Sj hp EI (λqq hq=>?_)|with_reducible_and_instances refine Sa hp EJ (λqq hq=>?_)|with_reducible_and_instances refine fo hq gU ?_|with_reducible_and_instances refine ly hq eK bE ?_)
  refine zr3 d q r.s r.a facts aX us h _ z.au h.size (4*i) i S0 E rfl [NB] (dq.lay _ _) inv i6 kT ((cP.ext z).lay _ _) oH (by omega) (by omega) _ (λh3 E2 oa z2 f2 FV nI inv2=>?_)
  have mi:=f2.size
  rw [bf] at mi
  refine Ar (by kernel_rfl) z2.low (by rw [bf];exact mi) ?_
  have Cw:=sd.beside (E2:=E2) ((aQ.lay bD [] _ E).trans f2 (λB hB=>.inl hB)) (λB hB=>(FV B hB).imp id (λe=>by rw [bf] at e;omega))
  have lu:=z2.size
  clear z dq sd
  have z:=z2
  rw [ao h3]
  simp only [cR,seval,c8]
  ((with_reducible refine ⟨z.bZ.lay _ _,?_⟩);(intro _ h6 zz x _);(simp only [bG,bu] at x))
  replace nI:=nI.over x
  replace Cw:=Cw.dR ((aQ.refl [] h3).over x)
  clear z
  have z:=zz
  rw [ao h6]
  simp only [syms,seval]
  with_reducible first|refine cZ (by simp only [c8]) z.au ?_
  simp only [aa,seval,c8]
  repeat' ((first|with_reducible_and_instances refine Kb (hl.mono z.inc) nj tO (by omega) hr (λp hp=>?_)|with_reducible_and_instances refine Sj hp EI (λqq hq=>?_)|with_reducible_and_instances refine Sa hp EJ (λqq hq=>?_)|with_reducible_and_instances refine fo hq gU ?_|with_reducible_and_instances refine ly hq eK bE ?_) <;> simp only [aa,seval,c8])
  have FW:=nI.lt.2
  have XO:NB ∉ E2:=λhm=>nI.2.1 NB hm (by simp)
  refine zr1 d i r.s r.a h _ z.au h.size S2 NB rfl E2 (λB hB=>by rw [bf];have:=(FW B hB).2;omega) (Cw.dR (aQ.lay _ _ _ _)) XO (by omega) oH _ (λh7 bb ee z7 f7 He=>?_)
  have IP:=f7.size
  rw [bf] at IP
  refine Ar (by kernel_rfl) z7.low (by rw [bf];exact IP) ?_
  have Cz:=nI.other ((aQ.lay h6 [] _ [NB]).trans f7 (λB hB=>.inl hB))
  clear z nI Cw
  have z:=z7
  rw [ao h7]
  simp only [cR,seval,c8]
  ((with_reducible refine ⟨z.bZ.lay _ _,?_⟩);(intro _ h8 zz x _);(simp only [bG,bu] at x))
  replace Cz:=Cz.over x
  replace He:=He.dR ((aQ.refl [] h7).over x)
  rw [<- Ac] at Cz inv2
  clear z
  have z:=zz
  rw [ao h8]
  simp only [aa,seval,c8]
  rw [fb]
  (rw [aO];with_reducible refine bS (m:=_) ?_ ⟨i+1,E2,_,_,oa,_,rfl,z,⟨rfl,by omega,Cz,He,inv2⟩,bc⟩;omega)
theorem zjM (d:aw) (p0 p1 p2 p5 p6:ae) (q b:Int) (h:Heap) (hd:ej h p0 p1 p2 p5 p6 d) (K:aG) (oZ:d.ah.length<=70->d.cp.length<=70->d.aU.length<=70->(∀ c∈d.aU,c.reads.length<=40)->d.rules.length<=70->(∀ r∈d.rules,r.body.length<=9)->d.bO.length<=70->(∀ g∈d.bO,g.body.length<=9)->∀ h',Ext h h'->K (.bool true) h') (iJ:∀ h',Ext h h'->K (.bool false) h'):Ok prog aA ov 6 [gC p0 p1 p2 p5 p6 q b] h K:=by
 rw [ao h]
 have z:=Ext.refl h
 have GW:∀ (h:Heap) (K:aG),aD (some p0) h K=K p0 h:=λ_ _=>rfl
 have qF:∀ (h:Heap) (K:aG),aD (some p1) h K=K p1 h:=λ_ _=>rfl
 have rF:∀ (h:Heap) (K:aG),aD (some p2) h K=K p2 h:=λ_ _=>rfl
 have tK:∀ (h:Heap) (K:aG),aD (some p5) h K=K p5 h:=λ_ _=>rfl
 have uI:∀ (h:Heap) (K:aG),aD (some p6) h K=K p6 h:=λ_ _=>rfl
 have ju:=λ(hh:Heap)=>hd.s1.bt kj hh
 have j7:=λ(hh:Heap)=>hd.s2.bt kl hh
 have BS:=λ(hh:Heap)=>hd.s5.bt ni hh
 have yw:=λ(hh:Heap)=>hd.s6.bt oC hh
 refine Ok.aq 134 (bm N6) ?_
 repeat' (simp only [aa,seval,c6,jG,k6,GW])
 refine zha d.ah p0 70 6000 _ (hd.s0.lay _ _) _ (λe0 h' x=>?_) (λh' x=>?_)
 rotate_left
 .have q0:=Holds.top (i:=0) x rfl
  (replace z:=z.aj x;rw [ao h'])
  repeat' (first|simp only [aa,seval,c6]|((with_reducible apply bI);(· rfl)))
  exact iJ _ z.au
 have q0:=Holds.top (i:=0) x rfl
 (replace z:=z.aj x;rw [ao h'])
 obtain ⟨A0,dK⟩:∃ A0,A0=h.size+0:=⟨_,rfl⟩
 rw [<- dK] at q0
 rw [<- dK]
 repeat' (first|simp only [aa,seval,c6,q0.lay,lU,oO,oP,qe,qF,rF,tK,uI,ju,j7,BS,yw]|((with_reducible apply bg) <;> intro _)|((with_reducible apply bI);(· rfl)))
 iterate 4 (· exact iJ _ z.au)
 have e1:d.cp.length<=70:=by omega
 have e2:d.aU.length<=70:=by omega
 have e5:d.rules.length<=70:=by omega
 have e6:d.bO.length<=70:=by omega
 obtain ⟨I1,aO⟩:∃ I:Nat->Env->Heap->Prop,I=(λn e h'=>∃ (i:Nat) (h1:Heap),h'=h1.lay [] h1.low/\Ext h h1/\(n=d.cp.length - i/\i<=d.cp.length/\Holds h1 A0 (.row (dw p0 p1 p2 p5 p6 q b) 28 false))/\∃ J:Nat->ae,e=(J 0::.pointer (some ⟨A0,0,none⟩)::J 2::.int .i64 i::jr J 4 131 ([]))):=⟨_,rfl⟩
 refine cK I1 _ (by rw [aO];exact ⟨0,_,rfl,z,⟨rfl,by omega,q0⟩,bc⟩) ?_
 intro n e h' aK
 rw [aO] at aK
 obtain ⟨i,bD,rfl,z,hinv,J,rfl⟩:=aK
 clear q0
 obtain ⟨rfl,hi,q0⟩:=hinv
 have hw:=dE i (by omega)
 simp only [aa,seval,c6,q0.lay,lU,qF,ju]
 refine bg (λaP=>?_) (λaP=>?_)
 .obtain ⟨r,hr,bM⟩:=eb (l:=d.cp) (i:=i) (by omega)
  repeat' (first|simp only [aa,seval,c6,q0.lay,lU,qF]|((with_reducible apply bg) <;> intro _)|with_reducible refine Sv (hd.s1.mono z.inc) kj mH (by omega) hr (λp hp=>?_)|with_reducible refine xO hp HY (λq hq=>?_)|with_reducible refine fo hq gU ?_)
  .exact iJ _ z.au
  rw [hw]
  (rw [aO];with_reducible refine bS (m:=_) ?_ ⟨i+1,_,rfl,z,⟨rfl,by omega,q0⟩,bc⟩;omega)
 clear hi aP hw
 simp only [aa,seval,c6]
 obtain ⟨I2,ey⟩:∃ I:Nat->Env->Heap->Prop,I=(λn e h'=>∃ (i:Nat) (h1:Heap),h'=h1.lay [] h1.low/\Ext h h1/\(n=d.aU.length - i/\i<=d.aU.length/\(∀ c∈d.aU.take i,c.reads.length<=40)/\Holds h1 A0 (.row (dw p0 p1 p2 p5 p6 q b) 28 false))/\∃ J:Nat->ae,e=(J 0::.pointer (some ⟨A0,0,none⟩)::jr J 2 2 (.int .i64 i::jr J 5 130 ([])))):=⟨_,rfl⟩
 refine cK I2 _ (by rw [ey];exact ⟨0,_,rfl,z,⟨rfl,by omega,by simp,q0⟩,bc⟩) ?_
 intro n e h' aK
 rw [ey] at aK
 obtain ⟨i,bD,rfl,z,hinv,J,rfl⟩:=aK
 clear q0
 obtain ⟨rfl,hi,aC,q0⟩:=hinv
 have hw:=dE i (by omega)
 simp only [aa,seval,c6,q0.lay,oO,rF,j7]
 refine bg (λaP=>?_) (λaP=>?_)
 .obtain ⟨r,hr,bM⟩:=eb (l:=d.aU) (i:=i) (by omega)
  repeat' (first|simp only [aa,seval,c6,q0.lay,oO,rF]|((with_reducible apply bg) <;> intro _)|with_reducible refine CU (hd.s2.mono z.inc) kl kB (by omega) hr (λp b hb hp=>?_)|with_reducible refine xO hp CZ (λq hq=>?_)|with_reducible refine fo hq gU ?_|with_reducible refine FG hp JY (λq hq=>?_)|with_reducible refine fo hq Fe ?_)
  .exact iJ _ z.au
  refine zha r.reads _ 40 3000 _ (hb.lay _ _) _ (λer h' x=>?_) (λh' x=>?_)
  rotate_left
  ·(replace z:=z.aj x;( replace q0:=q0.over x );rw [ao h'])
   repeat' (first|simp only [aa,seval,c6]|((with_reducible apply bI);(· rfl)))
   exact iJ _ z.au
  (replace z:=z.aj x;replace q0:=q0.over x;rw [ao h'])
  repeat' (first|simp only [aa,seval,c6]|((with_reducible apply bI);(· rfl)))
  rw [hw]
  (rw [ey];with_reducible refine bS (m:=_) ?_ ⟨i+1,_,rfl,z,⟨rfl,by omega,mL (i:=i) (P:=λc:bB=>c.reads.length<=40) bM aC (by omega),q0⟩,bc⟩;omega)
 rw [fX (by omega)] at aC
 clear hi aP hw
 simp only [aa,seval,c6]
 obtain ⟨I3,lp⟩:∃ I:Nat->Env->Heap->Prop,I=(λn e h'=>∃ (i:Nat) (h1:Heap),h'=h1.lay [] h1.low/\Ext h h1/\(n=d.rules.length - i/\i<=d.rules.length/\(∀ r∈d.rules.take i,r.body.length<=9)/\Holds h1 A0 (.row (dw p0 p1 p2 p5 p6 q b) 28 false))/\∃ J:Nat->ae,e=(J 0::.pointer (some ⟨A0,0,none⟩)::jr J 2 3 (.int .i64 i::jr J 6 129 ([])))):=⟨_,rfl⟩
 refine cK I3 _ (by rw [lp];exact ⟨0,_,rfl,z,⟨rfl,by omega,by simp,q0⟩,bc⟩) ?_
 intro n e h' aK
 rw [lp] at aK
 obtain ⟨i,bD,rfl,z,hinv,J,rfl⟩:=aK
 clear q0
 obtain ⟨rfl,hi,ya,q0⟩:=hinv
 have hw:=dE i (by omega)
 simp only [aa,seval,c6,q0.lay,oP,tK,BS]
 refine bg (λaP=>?_) (λaP=>?_)
 .obtain ⟨r,hr,bM⟩:=eb (l:=d.rules) (i:=i) (by omega)
  repeat' (first|simp only [aa,seval,c6,q0.lay,oP,tK]|with_reducible refine Sw (hd.s5.mono z.inc) ni rL (by omega) hr (λp b hb hp=>?_)|with_reducible refine FH hp HZ (λq hq=>?_)|with_reducible refine ly hq eK bE ?_)
  refine Rx r.head _ _ (λAc h' x=>?_) (λAc h' x=>?_)
  rotate_left
  ·(replace z:=z.aj x;( replace q0:=q0.over x );rw [ao h'])
   repeat' (first|simp only [aa,seval,c6]|((with_reducible apply bI);(· rfl)))
   exact iJ _ z.au
  (replace z:=z.aj x;replace q0:=q0.over x;rw [ao h'])
  repeat' (first|simp only [aa,seval,c6,q0.lay,oP,tK]|with_reducible refine Sw (hd.s5.mono z.inc) ni rL (by omega) hr (λp b hb hp=>?_)|with_reducible refine FJ hp H2 (λq hq=>?_)|with_reducible refine fo hq ta ?_|((with_reducible apply bI);(· rfl)))
  refine zpH r.body _ 9 _ (Sl.mono (by assumption) (b8.lay _ _ _)) _ (λhb9 _ h' x=>?_) (λh' x=>?_)
  rotate_left
  ·(replace z:=z.aj x;( replace q0:=q0.over x );rw [ao h'])
   repeat' (first|simp only [aa,seval,c6]|((with_reducible apply bI);(· rfl)))
   exact iJ _ z.au
  (replace z:=z.aj x;replace q0:=q0.over x;rw [ao h'])
  repeat' (first|simp only [aa,seval,c6]|((with_reducible apply bI);(· rfl)))
  rw [hw]
  (rw [lp];with_reducible refine bS (m:=_) ?_ ⟨i+1,_,rfl,z,⟨rfl,by omega,mL (i:=i) (P:=λr:cz=>r.body.length<=9) bM ya (by omega),q0⟩,bc⟩;omega)
 rw [fX (by omega)] at ya
 clear hi aP hw
 simp only [aa,seval,c6]
 obtain ⟨I4,FX⟩:∃ I:Nat->Env->Heap->Prop,I=(λn e h'=>∃ (i:Nat) (h1:Heap),h'=h1.lay [] h1.low/\Ext h h1/\(n=d.bO.length - i/\i<=d.bO.length/\(∀ g∈d.bO.take i,g.body.length<=9)/\Holds h1 A0 (.row (dw p0 p1 p2 p5 p6 q b) 28 false))/\∃ J:Nat->ae,e=(J 0::.pointer (some ⟨A0,0,none⟩)::jr J 2 4 (.int .i64 i::jr J 7 128 ([])))):=⟨_,rfl⟩
 refine cK I4 _ (by rw [FX];exact ⟨0,_,rfl,z,⟨rfl,by omega,by simp,q0⟩,bc⟩) ?_
 intro n e h' aK
 rw [FX] at aK
 obtain ⟨i,bD,rfl,z,hinv,J,rfl⟩:=aK
 clear q0
 obtain ⟨rfl,hi,xZ,q0⟩:=hinv
 have hw:=dE i (by omega)
 simp only [aa,seval,c6,q0.lay,qe,uI,yw]
 refine bg (λaP=>?_) (λaP=>?_)
 rotate_left
 .rw [fX (by omega)] at xZ
  repeat' (simp only [aa,seval,c6])
  exact oZ (by omega) e1 e2 aC e5 ya e6 xZ _ z.au
 obtain ⟨r,hr,bM⟩:=eb (l:=d.bO) (i:=i) (by omega)
 repeat' (first|simp only [aa,seval,c6,q0.lay,qe,uI]|((with_reducible apply bg) <;> intro _)|with_reducible refine Vc (hd.s6.mono z.inc) oC qj (by omega) hr (λp b hb hp=>?_)|with_reducible refine Wb hp U5 (λq hq=>?_)|with_reducible refine fo hq gU ?_|with_reducible refine Wc hp Si (λq hq=>?_)|with_reducible refine ly hq eK bE ?_)
 .exact iJ _ z.au
 refine Rx r.head _ _ (λAc h' x=>?_) (λAc h' x=>?_)
 rotate_left
 ·(replace z:=z.aj x;( replace q0:=q0.over x );rw [ao h'])
  repeat' (first|simp only [aa,seval,c6]|((with_reducible apply bI);(· rfl)))
  exact iJ _ z.au
 (replace z:=z.aj x;replace q0:=q0.over x;rw [ao h'])
 repeat' (first|simp only [aa,seval,c6,q0.lay,qe,uI]|with_reducible refine Vc (hd.s6.mono z.inc) oC qj (by omega) hr (λp b hb hp=>?_)|with_reducible refine Wd hp U6 (λq hq=>?_)|with_reducible refine fo hq ta ?_|((with_reducible apply bI);(· rfl)))
 refine zpH r.body _ 9 _ (Sl.mono (by assumption) (b8.lay _ _ _)) _ (λhb9 _ h' x=>?_) (λh' x=>?_)
 rotate_left
 ·(replace z:=z.aj x;( replace q0:=q0.over x );rw [ao h'])
  repeat' (first|simp only [aa,seval,c6]|((with_reducible apply bI);(· rfl)))
  exact iJ _ z.au
 (replace z:=z.aj x;replace q0:=q0.over x;rw [ao h'])
 repeat' (first|simp only [aa,seval,c6]|((with_reducible apply bI);(· rfl)))
 rw [hw]
 (rw [FX];with_reducible refine bS (m:=_) ?_ ⟨i+1,_,rfl,z,⟨rfl,by omega,mL (i:=i) (P:=λg:eX=>g.body.length<=9) bM xZ (by omega),q0⟩,bc⟩;omega)
end Go.Proofs.YtkgojconmeeegaaGreatDoor
