/- Walks: the document's lists of atoms. Written out by fill2.py. No condition. -/
import Derived.Test.YtdplfgoifjjniaaGreatDoorG43
import Derived.Test.YtdplfgoifjjniaaGreatDoorG47
set_option linter.unusedSimpArgs false
set_option linter.unusedVariables false
set_option maxRecDepth 100000
set_option maxHeartbeats 0
namespace Go.Proofs.YtdplfgoifjjniaaGreatDoor
open Go.Am
theorem zEh (l:List ab) (v:Value) (h:Heap) (hl:Sl aK.atom h v l) (hn:l.length≤100000) (aS:∀ x∈l,x.ba=true) (K:Value→Heap→Prop)
 (hk:∀ h',Ext h h'→K (.bool (DV l)) h'):Ok Tryz.prog ae ov 26 [v] h K:=by
 rw [ao h]
 have z:=Ext.refl h
 have bC:=cJ v
 have iO:=fun (hh:Heap)=>hl.bd cf hh
 refine Ok.aD rfl zzH (br N26) rfl (m:=20) rfl ?_
 repeat' (simp -implicitDefEqProofs only [syms,aa,seval,vG,bC])
 obtain ⟨I1,aR⟩:∃ I:Nat→Env→Heap→Prop,I=(fun n e h'=>∃ (i:Nat) (h1:Heap),h'=h1.lay [] h1.low∧Ext h h1∧(n=l.length+1 - i∧1≤i∧(∀ k,0 < k→k < i→k < l.length→aM (l.getD (k - 1) ah) (l.getD k ah) < 0))∧∃ J:Nat→Value,e=(v::jr J 1 2 (.int .i64 i::jr J 4 17 ([])))):=⟨_,rfl⟩
 refine dg I1 _ (by rw [aR];exact ⟨1,_,rfl,z,⟨rfl,by omega,fun k g1 g2=>by omega⟩,aB (by kernel_rfl)⟩) ?_
 intro n e h' aH
 rw [aR] at aH
 obtain ⟨i,bE,rfl,z,hinv,J,rfl⟩:=aH
 obtain ⟨rfl,hi,j8⟩:=hinv
 simp -implicitDefEqProofs only [syms,aa,seval,vG,bC,iO]
 refine bp (fun j3=>?_) (fun j3=>?_)
 rotate_left
 ·rw [jG.2 (fb.2 (fun k g1 g2=>j8 k g1 (by omega) g2))] at hk
  repeat' (simp -implicitDefEqProofs only [syms,aa,seval,vG,bC])
  exact hk _ (z.aw _ _ (by omega))
 have gO:=eg i (by omega)
 have ql:IntKind.i64.wrap ((i:Int) - 1)=((i - 1:Nat):Int):=by rw [wrap_i64 (by omega) (by omega)];omega
 have hr:l[(i:Int).toNat]? = some (l.getD i ah):=iP (by omega)
 have uG:l[((i - 1:Nat):Int).toNat]? = some (l.getD (i - 1) ah):=iP (by omega)
 simp -implicitDefEqProofs only [syms,aa,seval,vG,bC]
 with_reducible first|refine eu (by simp only [vG]) (z.aw _ _ (by omega)) ?_
 simp -implicitDefEqProofs only [syms,aa,seval,vG,bC,ql]
 repeat' ((first|with_reducible_and_instances refine pg (hl.mono z.inc) cf bS (by omega) uG (fun p hp=>?_)|with_reducible_and_instances refine pg (hl.mono z.inc) cf bS (by omega) hr (fun p hp=>?_)|with_reducible_and_instances refine mM hp fw bS ?_) <;> simp -implicitDefEqProofs only [syms,aa,seval,vG,bC,ql])
 refine zCO _ _ (n5 aS (by omega)) (n5 aS (by omega)) _ _ (fun h' x=>?_)
 (((with_reducible refine dK ?_ ?_ ?_);(· exact (by (simp only [dM]);have:=z.size;omega));(· exact x));replace z:=z.an x (by omega);rw [ao h'])
 simp -implicitDefEqProofs only [syms,aa,seval,vG]
 refine bp (fun hc=>?_) (fun hc=>?_)
 ·rw [zBk (fun g=>by have:=fb.1 g i (by omega) (by omega);omega)] at hk
  repeat' (first|simp -implicitDefEqProofs only [syms,aa,seval,vG]|((with_reducible refine ⟨z.cW.lay _ _,?_⟩);(intro _ h' zz x _);(simp only [cq,List.append_nil] at x);(replace z:=zz);(clear zz);rw [ao h']))
  exact hk _ (z.aw _ _ (by omega))
 ·repeat' (first|simp -implicitDefEqProofs only [syms,aa,seval,vG]|((with_reducible refine ⟨z.cW.lay _ _,?_⟩);(intro _ h' zz x _);( simp only [cq,List.append_nil] at x );(replace z:=zz);(clear zz);rw [ao h']))
  rw [gO]
  (rw [aR];with_reducible refine cz (m:=_) ?_ ⟨i+1,_,rfl,z,⟨rfl,by omega,fun k g1 g2 g3=>by
   rcases Nat.lt_or_ge k i with e|e
   ·exact j8 k g1 e g3
   ·have e:k=i:=by omega
    subst e
    omega⟩,aB (by kernel_rfl)⟩;omega)
theorem Gn {h1 h2:Heap} {bs:List bh} {w:Nat} (D:List Nat) (x:Ext (h1.lay bs w) h2):cP (aN D h1) (aN D h2):=(((aT.refl [] h1).over x).mono (D':=D) (fun _ h=>nomatch h)).inc (fun B hB=>.inl hB)
theorem aT.Ix {X:List Nat} {h h2:Heap} (f:aT X h h2):aT [] (aN X h) (aN X h2):=by
 refine ⟨by rw [jn,jn];exact f.size,fun B hB _=>?_⟩
 rw [jn] at hB
 by_cases hx:B∈X
 ·rw [vY hx hB,vY hx (Nat.lt_of_lt_of_le hB f.size)]
 ·rw [n9 hx,n9 hx]
  exact f.get B hB hx
theorem fZ.other {X:List Nat} {N b:Nat} {h h2:Heap} {S0:Nat} {E:List Nat} {d:au} {q:Int} {facts:ByteArray→List ab} {aI us:ByteArray→Nat} (s:fZ X N b h S0 E d q facts aI us) (f:aT X h h2):fZ X N b h2 S0 E d q facts aI us:=⟨s.1.dL (aT.Ix f),s.2.1,fun B hB=>Nat.lt_of_lt_of_le (s.2.2 B hB) f.size⟩
theorem zrL (a:ab) (h:Heap) (K:Value→Heap→Prop) (hk:∀ w l A h',Ext h h'→Ow aK.str h h' 9 A w l→l.length≤4→(∀ x,x∈l↔jQ a x=true)→K w h'):Ok Tryz.prog ae ov 27 [a.val] h K:=by
 rw [ao h]
 have z:=Ext.refl h
 refine Ok.aD rfl zzI (br N27) rfl (m:=4) rfl ?_
 simp -implicitDefEqProofs only [syms,aa,seval,c27,eW,↓ff,eR,dQ]
 refine zns a false _ _ (fun w l A h' x o hl hm=>?_)
 replace o:=o.down (h0:=h) (by rw [bB];omega)
 (replace z:=z.an x (by omega);rw [ao h'])
 have jm:=cJ w
 simp -implicitDefEqProofs only [syms,aa,seval,c27,jm]
 exact hk _ _ _ _ (z.aw _ _ (by omega)) (o.lay _ _) hl (fun x=>(hm x).trans iy.symm)
theorem Iy:ae.desc 63=some (.map 9 3):=by kernel_rfl
def rq (kv:List (ByteArray × Value)) (P:ByteArray→Prop):Prop:=∀ t,(cZ kv t).isSome=true↔P t
theorem zrj (d:au) (q b:Int) (facts:ByteArray→List ab) (aI us:ByteArray→Nat) (p0 p1 p2 p5 p6:Value) (P0 S0 M0 k bb:Nat) (E:List Nat) (h h0:Heap) (z:Ext h h0) (hd:fO h p0 p1 p2 p5 p6 d) (qP:Holds h0 P0 (.row (dw p0 p1 p2 p5 p6 q b) 29 false)) (hPM:P0≠M0) (hM:h.size≤M0) (cF:fZ [M0] h.size bb h0 S0 E d q facts aI us) (inv:da d k facts aI us) (hk6:k≤60) (JX:∀ w,((facts w).length:Int)≤q) (nB:d.aj.length≤16) (hm:cC h0 M0 []) (K:Value→Heap→Prop) (hk:∀ h',Ext h h'→K (.bool true) h')
 (e:Env) (he:∃ J:Nat→Value,e=jr J 0 2 (.pointer (some ⟨P0,0,none⟩)::jr J 3 2 (.pointer (some ⟨S0,0,none⟩)::jr J 6 8 (.map (some M0)::.int .i64 0::jr J 16 239 [])))) :
 W Tryz.prog ae ov none (N6 68).loop e (h0.lay [] h0.low) (zS 2 (Fb Tryz.prog ae ov none (N6 124) (aA ae Tryz.f6 K))):=by
 obtain ⟨J,rfl⟩:=he
 have jF:=cJ p0
 have Wi:∀ hh:Heap,bd ae 23 p0 hh=some (.int .i64 d.aj.length):=fun hh=>hd.s0.bd cM hh
 obtain ⟨I1,aR⟩:∃ I:Nat→Env→Heap→Prop,I=(fun n e h'=>∃ (j:Nat) (kv:List (ByteArray × Value)) (h1:Heap),h'=h1.lay [] h1.low∧Ext h h1∧(n=d.aj.length - j∧j≤d.aj.length∧fZ [M0] h.size bb h1 S0 E d q facts aI us∧cC h1 M0 kv∧rq kv (fun t=>∃ w∈d.aj.take j,∃ a∈facts w,jQ a t=true)∧Holds h1 P0 (.row (dw p0 p1 p2 p5 p6 q b) 29 false))∧∃ J:Nat→Value,e=(jr J 0 2 (.pointer (some ⟨P0,0,none⟩)::jr J 3 2 (.pointer (some ⟨S0,0,none⟩)::jr J 6 8 (.map (some M0)::.int .i64 j::jr J 16 239 ([])))))):=⟨_,rfl⟩
 refine dg I1 _ (by rw [aR];exact ⟨0,[],_,rfl,z,⟨rfl,by omega,cF,hm,fun t=>by simp [cZ],qP⟩,aB (by kernel_rfl)⟩) ?_
 intro n e h' aH
 rw [aR] at aH
 obtain ⟨j,kv,bE,rfl,z,hinv,J,rfl⟩:=aH
 clear cF hm qP
 obtain ⟨rfl,hj,cF,mm,rN,qP⟩:=hinv
 have FR:=eg j (by omega)
 have hz:=z.size
 simp -implicitDefEqProofs only [syms,aa,seval,c6,qP.lay,dy,jF,Wi]
 refine bp (fun Dg=>?_) (fun lr=>?_)
 rotate_left
 ·simp -implicitDefEqProofs only [syms,aa,seval,c6,dP]
  refine zun d q facts aI us _ _ _ S0 E (cF.lay _ _).un _ (fun h' n1 x c1 _=>?_)
  (replace z:=z.an x (by omega);(replace cF:=cF.over x);(replace mm:=mm.over x);(replace qP:=qP.over x);rw [ao h'])
  have FJ:=fun (b:List bh) (w:Nat)=>D6 (bs:=b) (w:=w) mm Iy
  have Dl:n1=kv.length:=by
   refine c1.same (m:=kv.length) ⟨kv.map Prod.fst,mm.nodup,fun t=>?_,by simp⟩ (fun t=>Iff.rfl)
   rw [inv.use,zvT,← List.take_of_length_le (l:=d.aj) (i:=j) (by omega)]
   refine Iff.trans ?_ (rN t)
   cases hl:cZ kv t with
   |none=>simp [dq.1 hl]
   |some v =>
    simp only [Option.isSome_some,iff_true]
    refine Classical.byContradiction fun hn=>?_
    rw [dq.2 hn] at hl
    cases hl
  subst Dl
  simp -implicitDefEqProofs only [syms,aa,seval,c6,bj,ec,FJ]
  exact hk _ (z.aw _ _ (by omega))
 obtain ⟨w,hr,bo⟩:=eP (l:=d.aj) (i:=j) (by omega)
 have lz:d.aj.take (j+1)=d.aj.take j++[w]:=by rw [List.take_add_one,bo];rfl
 have iO:=inv.len w
 have hqw:=JX w
 have CJ:=mm.lt
 simp -implicitDefEqProofs only [syms,aa,seval,c6,qP.lay,dy,jF,dP]
 repeat' ((first|with_reducible_and_instances refine ph (hd.s0.mono z.inc) cM mN (by omega) hr (fun p hp=>?_)|with_reducible_and_instances refine fX hp gU ?_) <;> simp -implicitDefEqProofs only [syms,aa,seval,c6,qP.lay,dy,jF,dJ,dP])
 refine O0 w d q facts aI us _ _ _ S0 E (cF.lay _ _).un (by omega) _ (fun h' w1 A1 x o1=>?_)
 have IZ:∀ B∈[M0],B < (bE.lay [] bE.low).size:=fun B hB=>by rw [bB,List.mem_singleton.1 hB];omega
 have sw:=o1.aN (D:=[M0]) (fun _ _ _ _ q=>q) (by decide) IZ
 have eN:=fun (hh:Heap)=>(o1.sl (by decide)).bd cf hh
 clear o1
 (replace z:=z.an x (by omega);(replace cF:=cF.over x);(replace mm:=mm.over x);(replace qP:=qP.over x);rw [ao h'])
 have ek:=cJ w1
 simp -implicitDefEqProofs only [syms,aa,seval,c6,qP.lay,xT,ek,eN,bj]
 refine bp (fun qd=>absurd qd (by omega)) (fun _=>?_)
 simp -implicitDefEqProofs only [syms,aa,seval,c6,qP.lay,dy,jF,dP,ek,eN,bj]
 repeat' ((first|with_reducible_and_instances refine ph (hd.s0.mono z.inc) cM mN (by omega) hr (fun p hp=>?_)|with_reducible_and_instances refine fX hp gU ?_) <;> simp -implicitDefEqProofs only [syms,aa,seval,c6,qP.lay,dy,jF,dJ,dP,ek,eN,bj])
 refine znk w d q facts aI us _ _ _ S0 E (cF.lay _ _).un _ (fun h' x=>?_)
 replace sw:=sw.mono (Gn [M0] x)
 (replace z:=z.an x (by omega);(replace cF:=cF.over x);(replace mm:=mm.over x);(replace qP:=qP.over x);rw [ao h'])
 simp -implicitDefEqProofs only [syms,aa,seval,c6,bj,ek]
 refine iK (fun he=>absurd rfl he) (fun _=>?_)
 simp -implicitDefEqProofs only [syms,aa,seval,c6,ek]
 refine zEh (facts w) w1 _ ((sw.mono (qt _ _)).lay _ _) (by omega) (fun a ha=>inv.ba ha) _ (fun h' x=>?_)
 rw [jG.2 (inv.iS w)]
 replace sw:=sw.mono (Gn [M0] x)
 (replace z:=z.an x (by omega);(replace cF:=cF.over x);(replace mm:=mm.over x);(replace qP:=qP.over x);rw [ao h'])
 simp -implicitDefEqProofs only [syms,aa,seval,c6,Bool.not_true]
 (with_reducible_and_instances apply cm);(· rfl)
 simp -implicitDefEqProofs only [syms,aa,seval,c6,Bool.not_true]
 obtain ⟨I2,eM⟩:∃ I:Nat→Env→Heap→Prop,I=(fun n e h'=>∃ (k2:Nat) (kv:List (ByteArray × Value)) (h1:Heap),h'=h1.lay [] h1.low∧Ext h h1∧(n=(facts w).length - k2∧k2≤(facts w).length∧fZ [M0] h.size bb h1 S0 E d q facts aI us∧cC h1 M0 kv∧rq kv (fun t=>(∃ w∈d.aj.take j,∃ a∈facts w,jQ a t=true)∨∃ a∈(facts w).take k2,jQ a t=true)∧Holds h1 P0 (.row (dw p0 p1 p2 p5 p6 q b) 29 false)∧Sl aK.atom (aN [M0] h1) w1 (facts w))∧∃ J:Nat→Value,e=(jr J 0 2 (.pointer (some ⟨P0,0,none⟩)::jr J 3 2 (.pointer (some ⟨S0,0,none⟩)::jr J 6 8 (.map (some M0)::.int .i64 j::w1::.int .i64 k2::jr J 18 237 ([])))))):=⟨_,rfl⟩
 refine dg I2 _ (by rw [eM];exact ⟨0,kv,_,rfl,z,⟨rfl,by omega,cF,mm,fun t=>by rw [rN t];simp,qP,sw⟩,aB (by kernel_rfl)⟩) ?_
 intro n e h' aH
 rw [eM] at aH
 obtain ⟨k2,kv,bE,rfl,z,hinv,J,rfl⟩:=aH
 clear cF mm qP sw rN CJ hz IZ
 obtain ⟨rfl,fp,cF,mm,rN,qP,sw⟩:=hinv
 have mK:=eg k2 (by omega)
 have hz:=z.size
 simp -implicitDefEqProofs only [syms,aa,seval,c6,ek,eN]
 refine bp (fun jb=>?_) (fun akW=>?_)
 rotate_left
 ·have Dd:rq kv (fun t=>∃ w∈d.aj.take (j+1),∃ a∈facts w,jQ a t=true):=fun t=>by
   rw [rN t,List.take_of_length_le (l:=facts w) (i:=k2) (by omega),lz]
   simp only [List.mem_append,List.mem_singleton]
   constructor
   ·rintro (⟨x,h1,h2⟩|h2)
    ·exact ⟨x,.inl h1,h2⟩
    ·exact ⟨w,.inr rfl,h2⟩
   ·rintro ⟨x,h1|rfl,h2⟩
    ·exact .inl ⟨x,h1,h2⟩
    ·exact .inr h2
  simp -implicitDefEqProofs only [syms,aa,seval,c6]
  rw [FR]
  (rw [aR];with_reducible refine cz (m:=_) ?_ ⟨j+1,kv,_,rfl,z,⟨rfl,by omega,cF,mm,Dd,qP⟩,aB (by kernel_rfl)⟩;omega)
 obtain ⟨a,ha,wZ⟩:=eP (l:=facts w) (i:=k2) (by omega)
 have sD:=List.mem_of_getElem? wZ
 obtain ⟨_,_,Jx,hsy⟩:=EE (inv.ok w a sD)
 have WO:(facts w).take (k2+1)=(facts w).take k2++[a]:=by rw [List.take_add_one,wZ];rfl
 simp -implicitDefEqProofs only [syms,aa,seval,c6,ek]
 repeat' ((first|with_reducible_and_instances refine pg (sw.mono (qt _ _)) cf bS (by omega) ha (fun p hp=>?_)|with_reducible_and_instances refine mM hp fw bS ?_) <;> simp -implicitDefEqProofs only [syms,aa,seval,c6,ek])
 refine zrL a _ _ (fun w2 cs A2 h' x o2 hc4 hcm=>?_)
 have IZ:∀ B∈[M0],B < (bE.lay [] bE.low).size:=fun B hB=>by rw [bB,List.mem_singleton.1 hB];have:=mm.lt;omega
 have sc:=o2.aN (D:=[M0]) (fun _ _ _ _ q=>q) (by decide) IZ
 have fT:=fun (hh:Heap)=>(o2.sl (by decide)).bd cM hh
 replace sw:=sw.mono (Gn [M0] x)
 clear o2 IZ
 (replace z:=z.an x (by omega);(replace cF:=cF.over x);(replace mm:=mm.over x);(replace qP:=qP.over x);rw [ao h'])
 have gd:=cJ w2
 simp -implicitDefEqProofs only [syms,aa,seval,c6,gd]
 obtain ⟨I3,j0⟩:∃ I:Nat→Env→Heap→Prop,I=(fun n e h'=>∃ (g:Nat) (kv:List (ByteArray × Value)) (h1:Heap),h'=h1.lay [] h1.low∧Ext h h1∧(n=cs.length - g∧g≤cs.length∧fZ [M0] h.size bb h1 S0 E d q facts aI us∧cC h1 M0 kv∧rq kv (fun t=>((∃ w∈d.aj.take j,∃ a∈facts w,jQ a t=true)∨∃ a∈(facts w).take k2,jQ a t=true)∨t∈cs.take g)∧Holds h1 P0 (.row (dw p0 p1 p2 p5 p6 q b) 29 false)∧Sl aK.atom (aN [M0] h1) w1 (facts w)∧Sl aK.str (aN [M0] h1) w2 cs)∧∃ J:Nat→Value,e=(jr J 0 2 (.pointer (some ⟨P0,0,none⟩)::jr J 3 2 (.pointer (some ⟨S0,0,none⟩)::jr J 6 8 (.map (some M0)::.int .i64 j::w1::.int .i64 k2::w2::.int .i64 g::jr J 20 235 ([])))))):=⟨_,rfl⟩
 refine dg I3 _ (by rw [j0];exact ⟨0,kv,_,rfl,z,⟨rfl,by omega,cF,mm,fun t=>by rw [rN t];simp,qP,sw,sc⟩,aB (by kernel_rfl)⟩) ?_
 intro n e h' aH
 rw [j0] at aH
 obtain ⟨g,kv,bE,rfl,z,hinv,J,rfl⟩:=aH
 clear cF mm qP sw sc rN hz
 obtain ⟨rfl,hg4,cF,mm,rN,qP,sw,sc⟩:=hinv
 have hwg:=eg g (by omega)
 have hz:=z.size
 simp -implicitDefEqProofs only [syms,aa,seval,c6,gd,fT]
 refine bp (fun Dh=>?_) (fun akX=>?_)
 ·obtain ⟨c,hc,tW⟩:=eP (l:=cs) (i:=g) (by omega)
  have WQ:cs.take (g+1)=cs.take g++[c]:=by rw [List.take_add_one,tW];rfl
  simp -implicitDefEqProofs only [syms,aa,seval,c6,gd,ec,dJ]
  repeat' ((first|with_reducible_and_instances refine ph (sc.mono (qt _ _)) cM mN (by omega) hc (fun p hp=>?_)|with_reducible_and_instances refine fX hp gU ?_) <;> simp -implicitDefEqProofs only [syms,aa,seval,c6,gd,ec,dJ,bj,LW])
  refine zqH mm Iy vC (fun h3 m3 c3=>?_)
  have f3:aT [M0] bE h3:=(aT.refl [M0] bE).ku c3 (.inl (by simp))
  have hML:=mm.lt
  replace z:=z.dI c3 hM (by omega)
  replace cF:=cF.other f3
  replace qP:=qP.bR c3 hPM
  replace sw:=sw.mono (f3.inc (D':=[M0]) (fun B hB=>.inl hB))
  replace sc:=sc.mono (f3.inc (D':=[M0]) (fun B hB=>.inl hB))
  have Dd:rq (fo kv c (.int .i64 1)) (fun t=>((∃ w∈d.aj.take j,∃ a∈facts w,jQ a t=true)∨∃ a∈(facts w).take k2,jQ a t=true)∨t∈cs.take (g+1)):=fun t=>by
   rw [Gh,WQ]
   simp only [List.mem_append,List.mem_singleton]
   by_cases ht:t=c
   ·rw [if_pos ht]
    simp [ht]
   ·rw [if_neg ht,rN t]
    simp [ht]
  rw [ao h3]
  simp -implicitDefEqProofs only [syms,aa,seval,c6]
  rw [hwg]
  (rw [j0];with_reducible refine cz (m:=_) ?_ ⟨g+1,_,_,rfl,z,⟨rfl,by omega,cF,m3,Dd,qP,sw,sc⟩,aB (by kernel_rfl)⟩;omega)
 have Wc:rq kv (fun t=>(∃ w∈d.aj.take j,∃ a∈facts w,jQ a t=true)∨∃ a∈(facts w).take (k2+1),jQ a t=true):=fun t=>by
  rw [rN t,List.take_of_length_le (l:=cs) (i:=g) (by omega),WO]
  simp only [List.mem_append,List.mem_singleton]
  rw [hcm t]
  constructor
  ·rintro ((h1|⟨x,h1,h2⟩)|h2)
   ·exact .inl h1
   ·exact .inr ⟨x,.inl h1,h2⟩
   ·exact .inr ⟨a,.inr rfl,h2⟩
  ·rintro (h1|⟨x,h1|rfl,h2⟩)
   ·exact .inl (.inl h1)
   ·exact .inl (.inr ⟨x,h1,h2⟩)
   ·exact .inr h2
 clear sc rN hc4 hcm fT gd
 subst hsy
 simp -implicitDefEqProofs only [syms,aa,seval,c6]
 with_reducible first|refine eu (by simp only [c6]) (z.aw _ _ (by omega)) ?_
 repeat' (first|simp -implicitDefEqProofs only [syms,aa,seval,c6,ek,qP.lay,dy,jF]|((with_reducible apply bp) <;> intro _)|with_reducible_and_instances refine pg (sw.mono (qt _ _)) cf bS (by omega) ha (fun p hp=>?_)|with_reducible_and_instances refine TH hp ri (fun qq hq=>?_)|with_reducible_and_instances refine fX hq gU ?_|with_reducible_and_instances refine ph (hd.s0.mono z.inc) cM mN (by omega) hr (fun p hp=>?_)|with_reducible_and_instances refine fX hp gU ?_|with_reducible_and_instances refine mM hp fw bS ?_|((with_reducible refine ⟨z.cW.lay _ _,?_⟩);(intro _ h' zz x _);(simp only [cq,List.append_nil] at x);(replace cF:=cF.over x);(replace mm:=mm.over x);(replace qP:=qP.over x);(replace z:=zz);(clear zz);rw [ao h']))
 ·exact absurd (rfl:a.says=a.says) (by assumption)
 refine zrO a _ _ (fun h' x=>?_)
 rw [show a.ground=true from Jx]
 replace sw:=sw.mono (Gn [M0] x)
 (((with_reducible refine dK ?_ ?_ ?_);(· exact (by (simp only [dM]);have:=z.size;omega));(· exact x));replace z:=z.an x (by omega);(replace cF:=cF.over x);(replace mm:=mm.over x);(replace qP:=qP.over x);rw [ao h'])
 clear hp
 simp -implicitDefEqProofs only [syms,aa,seval,c6,Bool.not_true,ek,dP]
 (with_reducible_and_instances apply cm);(· rfl)
 simp -implicitDefEqProofs only [syms,aa,seval,c6,Bool.not_true,ek,dP]
 repeat' ((first|with_reducible_and_instances refine pg (sw.mono (qt _ _)) cf bS (by omega) ha (fun p hp=>?_)|with_reducible_and_instances refine mM hp fw bS ?_) <;> simp -implicitDefEqProofs only [syms,aa,seval,c6,Bool.not_true,ek,dP])
 refine zCQ a d q facts aI us _ _ _ S0 E (cF.lay _ _).un (by omega) _ (fun h' x=>?_)
 rw [decide_eq_true sD]
 replace sw:=sw.mono (Gn [M0] x)
 (((with_reducible refine dK ?_ ?_ ?_);(· exact (by (simp only [dM]);have:=z.size;omega));(· exact x));replace z:=z.an x (by omega);(replace cF:=cF.over x);(replace mm:=mm.over x);(replace qP:=qP.over x);rw [ao h'])
 repeat' (first|simp -implicitDefEqProofs only [syms,aa,seval,c6,Bool.not_true]|((with_reducible_and_instances apply cm);(· rfl))|((with_reducible refine ⟨z.cW.lay _ _,?_⟩);(intro _ h' zz x _);(simp only [cq,List.append_nil] at x);(replace cF:=cF.over x);(replace mm:=mm.over x);(replace qP:=qP.over x);(replace z:=zz);(clear zz);rw [ao h']))
 replace sw:=sw.mono (Gn [M0] x)
 rw [mK]
 (rw [eM];with_reducible refine cz (m:=_) ?_ ⟨k2+1,kv,_,rfl,z,⟨rfl,by omega,cF,mm,Wc,qP,sw⟩,aB (by kernel_rfl)⟩;omega)
theorem zlO (d0:au) (l:List jq) (v lv:Value) (h:Heap) (cA:aY 1 h) (hx:HQ h v d0) (hl:Sl aK.act h lv l) (K:Value→Heap→Prop)
 (hk:∀ h',Ext h h'→K (.bool true) h'):Ok Tryz.prog ae ov 6 [v,lv] h K:=by
 obtain ⟨p0,p1,p2,p5,p6,q,b,rfl,AA⟩:=hx
 obtain ⟨d,hd,hq,hb⟩:∃ d:au,fO h p0 p1 p2 p5 p6 d∧d.du=q∧d.cD=b:=⟨{ d0 with du:=q,cD:=b },⟨AA.s0,AA.s1,AA.s2,AA.s5,AA.s6⟩,rfl,rfl⟩
 clear AA
 have bw:=hd.one q b
 rw [ao h]
 have z:=Ext.refl h
 have jF:=cJ p0
 have nZ:=cJ lv
 have FH:=fun (hh:Heap)=>hl.bd jw hh
 refine Ok.aD rfl zDb (br N6) rfl (m:=253) rfl ?_
 simp -implicitDefEqProofs only [syms,aa,seval,c6,eQ]
 refine Ok.over (g:=GY 1) rfl (zAR (cA.lay _ _)) ?_
 repeat' (first|simp -implicitDefEqProofs only [syms,aa,seval,c6,Bool.not_true,eQ,↓im,gP,gk,nZ]|((with_reducible_and_instances apply cm);(· rfl)))
 refine ziX d _ _ _ _ _ _ _ _ (hd.lay _ _) _ (fun b0 b1 b2 b3 b4 b5 b6 b7 h' x=>?_) (fun h' x=>?_)
 rotate_left
 ·(replace z:=z.an x (by omega);rw [ao h'])
  repeat' (first|simp -implicitDefEqProofs only [syms,aa,seval,c6,Bool.not_false]|((with_reducible_and_instances apply cm);(· rfl)))
  exact hk _ (z.aw _ _ (by omega))
 have qP:=Holds.top (i:=0) x rfl
 (replace z:=z.an x (by omega);rw [ao h'])
 obtain ⟨P0,hP0⟩:∃ P0,P0=h.size+0:=⟨_,rfl⟩
 rw [← hP0] at qP
 rw [← hP0]
 repeat' (first|simp -implicitDefEqProofs only [syms,aa,seval,c6,Bool.not_true,nZ]|((with_reducible_and_instances apply cm);(· rfl)))
 refine znq l _ _ ((hl.mono z.inc).lay _ _) _ (fun ak7 aS h' x=>?_) (fun h' x=>?_)
 rotate_left
 ·(replace z:=z.an x (by omega);( replace qP:=qP.over x );rw [ao h'])
  repeat' (first|simp -implicitDefEqProofs only [syms,aa,seval,c6,Bool.not_false]|((with_reducible_and_instances apply cm);(· rfl)))
  exact hk _ (z.aw _ _ (by omega))
 (replace z:=z.an x (by omega);(replace qP:=qP.over x);rw [ao h'])
 repeat' (first|simp -implicitDefEqProofs only [syms,aa,seval,c6,Bool.not_true,qP.lay,eQ,↓im,gP,gk]|((with_reducible_and_instances apply cm);(· rfl)))
 have hPN:B1 d:=⟨by omega,by omega,by omega,fun r hr=>by have:=b5 r hr;omega,by omega,fun g hg=>by have:=b7 g hg;omega⟩
 refine zCT d _ _ _ _ _ q b _ ((cA.ext z).lay _ _) bw ((hd.mono z.inc).lay _ _) hq hb hPN (by omega) (by omega) [] (fun _ h=>nomatch h) _ (fun aO h' x=>?_) (fun heq h' S0 E0 x cF=>?_)
 ·(replace z:=z.an x (by omega);( replace qP:=qP.over x );rw [ao h'])
  simp -implicitDefEqProofs only [syms,aa,seval,c6,bj]
  refine iK (fun _=>?_) (fun he=>absurd he aO)
  simp -implicitDefEqProofs only [syms,aa,seval,c6,qP.lay,eQ,↓im,gP,gk]
  refine zrz d _ _ _ _ _ _ _ _ bw ((hd.mono z.inc).lay _ _) hq hb (by omega) _ (fun h' x=>?_)
  (replace z:=z.an x (by omega);(replace qP:=qP.over x);rw [ao h'])
  simp -implicitDefEqProofs only [syms,aa,seval,c6,bj]
  refine iK (fun _=>?_) (fun he=>absurd he aO)
  simp -implicitDefEqProofs only [syms,aa,seval,c6]
  exact hk _ (z.aw _ _ (by omega))
 have Vo:∀ B∈E0,P0 < B:=fun B hB=>by
  have h1:=(cF.lt.2 B hB).1
  have h2:=qP.lt
  rw [bB] at h1
  omega
 replace cF:=cF.down (N2:=h.size) (by rw [bB];have:=z.size;omega)
 have Ki:=da.empty d
 have NJ:=zot heq
 rw [hq] at NJ
 obtain ⟨iw,nB⟩:=zos heq
 replace qP:=qP.over x
 replace z:=z.an x (by omega)
 obtain ⟨hT,hTe⟩:∃ hT,hT=h':=⟨_,rfl⟩
 rw [← hTe] at z cF qP ⊢
 clear x hTe
 have hPT:=qP.lt
 rw [ao hT]
 simp -implicitDefEqProofs only [syms,aa,seval,c6,dP,bj]
 obtain ⟨I1,aR⟩:∃ I:Nat→Env→Heap→Prop,I=(fun n e h'=>∃ (i:Nat) (E:List Nat) (facts:ByteArray→List ab) (aI us:ByteArray→Nat) (h1:Heap),h'=h1.lay [] h1.low∧Ext h h1∧(n=l.length - i∧i≤l.length∧fZ [] h.size (4*i) h1 S0 E d q facts aI us∧da d i facts aI us∧(∀ w,((facts w).length:Int)≤q)∧aT E0 hT h1∧(∀ B∈E,B∈E0∨hT.size≤B))∧∃ J:Nat→Value,e=(J 0::lv::.pointer (some ⟨P0,0,none⟩)::jr J 3 2 (.pointer (some ⟨S0,0,none⟩)::J 6::.int .i64 i::jr J 8 247 ([])))):=⟨_,rfl⟩
 refine dg I1 _ (by rw [aR];exact ⟨0,E0,_,_,_,_,rfl,z,⟨rfl,by omega,cF,Ki,fun _=>NJ,aT.refl _ _,fun B hB=>.inl hB⟩,aB (by kernel_rfl)⟩) ?_
 intro n e h' aH
 rw [aR] at aH
 obtain ⟨i,E,facts,aI,us,bE,rfl,z,hinv,J,rfl⟩:=aH
 clear cF Ki
 obtain ⟨rfl,hi,cF,inv,JX,fr,hE⟩:=hinv
 have gO:=eg i (by omega)
 have hz:=z.size
 have hEl:=fun B hB=>(cF.lt.2 B hB).2
 simp -implicitDefEqProofs only [syms,aa,seval,c6,nZ,FH]
 refine bp (fun Dg=>?_) (fun lr=>?_)
 ·obtain ⟨r,hr,bo⟩:=eP (l:=l) (i:=i) (by omega)
  have NK:=(aS r (List.mem_of_getElem? bo)).2
  have iO:=inv.len r.s
  have vV:=inv.Be r.s
  have NQ:IntKind.i64.wrap (((facts r.s).length:Int)+1)=(facts r.s).length+1:=wrap_i64 (by omega) (by omega)
  have FT:IntKind.i64.wrap (((facts r.s).length:Int) - 1)=(facts r.s).length - 1:=wrap_i64 (by omega) (by omega)
  have hwu:IntKind.u64.wrap ((aI r.s:Int)+1)=((aI r.s+1:Nat):Int):=zEI (by omega)
  simp -implicitDefEqProofs only [syms,aa,seval,c6]
  with_reducible first|refine eu (by simp only [c6]) (z.aw _ _ (by omega)) ?_
  repeat' (first|simp -implicitDefEqProofs only [syms,aa,seval,c6,dJ,dP,bj,nZ]|with_reducible_and_instances refine wA (hl.mono z.inc) jw kN (by omega) hr (fun p hp=>?_)|with_reducible_and_instances refine zW hp sk (fun qq hq=>?_)|with_reducible_and_instances refine fX hq gU ?_)
  refine O0 r.s d q facts aI us _ _ _ S0 E (cF.lay _ _).un (by omega) _ (fun h' w1 A1 x o1=>?_)
  have hEb:∀ B∈E,B < (bE.lay [] (bE.size+0)).size:=fun B hB=>by rw [bB];have:=hEl B hB;omega
  (((with_reducible refine dK ?_ ?_ ?_);(· exact (by (simp only [dM]);have:=z.size;omega));(· exact x));replace z:=z.an x (by omega);(replace cF:=cF.over x);(replace fr:=fr.over x);rw [ao h'])
  have ek:=cJ w1
  repeat' (first|simp -implicitDefEqProofs only [syms,aa,seval,c6,ek,dJ,dP,bj,nZ]|with_reducible_and_instances refine wA (hl.mono z.inc) jw kN (by omega) hr (fun p hp=>?_)|with_reducible_and_instances refine zW hp sk (fun qq hq=>?_)|with_reducible_and_instances refine fX hq gU ?_)
  refine YV r.s d q facts aI us _ _ _ S0 E (cF.lay _ _).un _ (fun h' x=>?_)
  (((with_reducible refine dK ?_ ?_ ?_);(· exact (by (simp only [dM]);have:=z.size;omega));(· exact x));replace z:=z.an x (by omega);(replace cF:=cF.over x);(replace fr:=fr.over x);(replace o1:=o1.over x);rw [ao h'])
  repeat' (first|simp -implicitDefEqProofs only [syms,aa,seval,c6,ek,dJ,dP,bj,nZ]|with_reducible_and_instances refine wA (hl.mono z.inc) jw kN (by omega) hr (fun p hp=>?_)|with_reducible_and_instances refine zW hp sk (fun qq hq=>?_)|with_reducible_and_instances refine fX hq gU ?_)
  refine znk r.s d q facts aI us _ _ _ S0 E (cF.lay _ _).un _ (fun h' x=>?_)
  (((with_reducible refine dK ?_ ?_ ?_);(· exact (by (simp only [dM]);have:=z.size;omega));(· exact x));replace z:=z.an x (by omega);(replace cF:=cF.over x);(replace fr:=fr.over x);(replace o1:=o1.over x);rw [ao h'])
  repeat' (first|simp -implicitDefEqProofs only [syms,aa,seval,c6,ek,dJ,dP,bj,nZ]|with_reducible_and_instances refine wA (hl.mono z.inc) jw kN (by omega) hr (fun p hp=>?_)|with_reducible_and_instances refine zD2 hp ztq (fun qq hq=>?_)|with_reducible_and_instances refine fX hq HX ?_|((with_reducible refine ⟨z.cW.lay _ _,?_⟩);(intro _ h' zz x _);(simp only [cq,List.append_nil] at x);(replace cF:=cF.over x);(replace fr:=fr.over x);(replace o1:=o1.over x);(replace z:=zz);(clear zz);rw [ao h']))
  refine zCV r.k 2 _ _ (by decide) ?_
  simp -implicitDefEqProofs only [syms,aa,seval,c6,ek,dJ,dP,bj,nZ]
  have dB:=z.size
  have s1:=o1.aN (D:=E) (fun _ _ _ _ q=>q) (by decide) hEb
  refine bp (fun hp=>?_) (fun hp=>?_)
  focus
   have sH:nF d q r (facts r.s)=fG d q r.s r.a (facts r.s):=if_pos ((zqv r.k).1 hp)
   simp -implicitDefEqProofs only [syms,aa,seval,c6]
   with_reducible first|refine eu (by simp only [c6]) (z.aw _ _ (by omega)) ?_
   repeat' (first|simp -implicitDefEqProofs only [syms,aa,seval,c6,ek,dJ,dP,bj,nZ]|with_reducible_and_instances refine wA (hl.mono z.inc) jw kN (by omega) hr (fun p hp=>?_)|with_reducible_and_instances refine zW hp sk (fun qq hq=>?_)|with_reducible_and_instances refine ztu hp GL (fun qq hq=>?_)|with_reducible_and_instances refine fX hq gU ?_|with_reducible_and_instances refine mM hq fw bS ?_)
   refine zry d q r.s r.a facts aI us h _ (z.aw _ _ (by omega)) h.size (4*i) i S0 E rfl [] (cF.lay _ _) inv iw nB ((cA.ext z).lay _ _) NK (by omega) (by omega) _ (fun h3 E2 ko z2 f2 wX gx inv2=>?_)
   have rI:(fG d q r.s r.a (facts r.s)).isSome=true→jZ d q r.s r.a (facts r.s)=0:=fun h=>zwN h
   rw [← sH] at gx inv2 rI ⊢
   have uH:=f2.size
   rw [bB] at uH
   refine OK (by kernel_rfl) z2.low (by rw [bB];exact uH) ?_
   have hfs:=fr.size
   have lK:aT E0 hT h3:=(fr.trans (aT.lay _ [] _ []) (fun _ h=>by simp at h)).trans f2 hE
   have IU:∀ B∈E2,B∈E0∨hT.size≤B:=fun B hB=>(wX B hB).elim (hE B) (fun e=>.inr (by rw [bB] at e;omega))
   have s2:=s1.mono (((aT.lay _ [] _ E).trans f2 (fun B hB=>.inl hB)).inc (D':=E2) (fun B hB=>(wX B hB).imp id (fun e=>by rw [bB] at e;simpa using e)))
   replace s2:=s2.mono (qt _ _)
   obtain ⟨er,Jp⟩:∃ er,er=jZ d q r.s r.a (facts r.s):=⟨_,rfl⟩
   rw [← Jp] at rI ⊢
   clear z cF fr o1 s1 sH Jp
   have z:=z2
   rw [ao h3]
   replace gx:=gx.more (b2:=4*(i+1)) (by omega)
   rcases hO:nF d q r (facts r.s) with _|m
   all_goals
    simp only [Option.isSome_none,Option.isSome_some]
    simp -implicitDefEqProofs only [syms,aa,seval,c6,ij,dU,bj]
    ((with_reducible refine ⟨z.cW.lay _ _,?_⟩);(intro _ h6 zz x _);(simp only [cq,List.append_nil] at x))
    replace gx:=gx.over x
    replace lK:=lK.over x
    replace s2:=s2.mono x.inc.jh
    clear z
    have z:=zz
    rw [ao h6]
    simp -implicitDefEqProofs only [syms,aa,seval,c6,ij,dU,bj]
  rotate_left 2
  focus
   have sH:nF d q r (facts r.s)=gu d r.s r.a (facts r.s):=if_neg (fun e=>hp ((zqv r.k).2 e))
   simp -implicitDefEqProofs only [syms,aa,seval,c6]
   with_reducible first|refine eu (by simp only [c6]) (z.aw _ _ (by omega)) ?_
   repeat' (first|simp -implicitDefEqProofs only [syms,aa,seval,c6,ek,dJ,dP,bj,nZ]|with_reducible_and_instances refine wA (hl.mono z.inc) jw kN (by omega) hr (fun p hp=>?_)|with_reducible_and_instances refine zW hp sk (fun qq hq=>?_)|with_reducible_and_instances refine ztu hp GL (fun qq hq=>?_)|with_reducible_and_instances refine fX hq gU ?_|with_reducible_and_instances refine mM hq fw bS ?_)
   refine zpj d q r.s r.a facts aI us h _ (z.aw _ _ (by omega)) h.size (4*i) i S0 E rfl [] (cF.lay _ _) inv iw nB ((cA.ext z).lay _ _) NK (by omega) (by omega) _ (fun h3 E2 ko z2 f2 wX gx inv2=>?_)
   have rI:(gu d r.s r.a (facts r.s)).isSome=true→gl d r.s r.a=0:=fun h=>by
    cases h2:gu d r.s r.a (facts r.s) with
    |none=>rw [h2] at h;cases h
    |some m=>exact (ztN h2).1
   rw [← sH] at gx inv2 rI ⊢
   have uH:=f2.size
   rw [bB] at uH
   refine OK (by kernel_rfl) z2.low (by rw [bB];exact uH) ?_
   have hfs:=fr.size
   have lK:aT E0 hT h3:=(fr.trans (aT.lay _ [] _ []) (fun _ h=>by simp at h)).trans f2 hE
   have IU:∀ B∈E2,B∈E0∨hT.size≤B:=fun B hB=>(wX B hB).elim (hE B) (fun e=>.inr (by rw [bB] at e;omega))
   have s2:=s1.mono (((aT.lay _ [] _ E).trans f2 (fun B hB=>.inl hB)).inc (D':=E2) (fun B hB=>(wX B hB).imp id (fun e=>by rw [bB] at e;simpa using e)))
   replace s2:=s2.mono (qt _ _)
   obtain ⟨er,Jp⟩:∃ er,er=gl d r.s r.a:=⟨_,rfl⟩
   rw [← Jp] at rI ⊢
   clear z cF fr o1 s1 sH Jp
   have z:=z2
   rw [ao h3]
   replace gx:=gx.more (b2:=4*(i+1)) (by omega)
   rcases hO:nF d q r (facts r.s) with _|m
   all_goals
    simp only [Option.isSome_none,Option.isSome_some]
    simp -implicitDefEqProofs only [syms,aa,seval,c6,ij,dU,bj]
    ((with_reducible refine ⟨z.cW.lay _ _,?_⟩);(intro _ h6 zz x _);(simp only [cq,List.append_nil] at x))
    replace gx:=gx.over x
    replace lK:=lK.over x
    replace s2:=s2.mono x.inc.jh
    clear z
    have z:=zz
    rw [ao h6]
    simp -implicitDefEqProofs only [syms,aa,seval,c6,ij,dU,bj]
  rotate_left
  all_goals
   have xy:∀ w,((sx facts r.s (nF d q r (facts r.s)) w).length:Int)≤q:=fun w=>by
    by_cases hw:r.s=w
    ·subst hw
     rw [zkV]
     exact ztO (JX r.s)
    ·rw [zAS hw]
     exact JX w
   have hzz:=z.size
   have Df:=inv2.len r.s
   repeat' ((first|with_reducible_and_instances refine wA (hl.mono z.inc) jw kN (by omega) hr (fun p hp=>?_)|with_reducible_and_instances refine zW hp sk (fun qq hq=>?_)|with_reducible_and_instances refine fX hq gU ?_) <;> simp -implicitDefEqProofs only [syms,aa,seval,c6,ek,dJ,dP,bj,dU,nZ])
   clear hp
  all_goals first
   |(
    rw [hO,El] at xy
    rw [hO,El] at Df
    rw [hO,El,Mb] at gx inv2
    refine O0 r.s d q facts aI ko _ _ _ S0 E2 (gx.lay _ _).un (by omega) _ (fun h' w2 A2 x o2=>?_)
    replace s2:=Sl.mono s2 x.inc.jh
    replace o2:=o2.sl (by decide)
    (replace z:=z.an x (by omega);(replace gx:=gx.over x);(replace lK:=lK.over x);rw [ao h'])
    have gd:=cJ w2
    simp -implicitDefEqProofs only [syms,aa,seval,c6,ek,gd,dJ,dP,bj,dU]
    (with_reducible_and_instances apply cm);(· rfl)
    simp -implicitDefEqProofs only [syms,aa,seval,c6,Bool.not_false,ek,gd,dJ,dP,bj,dU]
    refine znu _ _ w1 w2 _ (s2.lay _ _) (o2.lay _ _) (by omega) (by omega) _ (fun h' x=>?_)
    rw [decide_eq_true rfl]
    (replace z:=z.an x (by omega);(replace gx:=gx.over x);(replace lK:=lK.over x);(replace s2:=s2.over x);rw [ao h'])
    simp -implicitDefEqProofs only [syms,aa,seval,c6,Bool.not_true,ek,gd,dJ,dP,bj,dU,nZ]
    (with_reducible_and_instances apply cm);(· rfl)
    simp -implicitDefEqProofs only [syms,aa,seval,c6,Bool.not_true,ek,gd,dJ,dP,bj,dU,nZ]
    repeat' ((first|with_reducible_and_instances refine wA (hl.mono z.inc) jw kN (by omega) hr (fun p hp=>?_)|with_reducible_and_instances refine zW hp sk (fun qq hq=>?_)|with_reducible_and_instances refine fX hq gU ?_) <;> simp -implicitDefEqProofs only [syms,aa,seval,c6,ek,gd,dJ,dP,bj,dU,nZ])
    refine YV r.s d q facts aI ko _ _ _ S0 E2 (gx.lay _ _).un _ (fun h' x=>?_)
    (replace z:=z.an x (by omega);(replace gx:=gx.over x);(replace lK:=lK.over x);(replace s2:=s2.over x);rw [ao h'])
    simp -implicitDefEqProofs only [syms,aa,seval,c6,bj,dU]
    refine iK (fun he=>absurd rfl he) (fun _=>?_)
    simp -implicitDefEqProofs only [syms,aa,seval,c6,bj,dU]
    rw [gO]
    (rw [aR];with_reducible refine cz (m:=_) ?_ ⟨i+1,E2,facts,aI,ko,_,rfl,z,⟨rfl,by omega,gx,inv2,xy,lK,IU⟩,aB (by kernel_rfl)⟩;omega)
    done)
   |(
    have VO:=rI (by rw [hO];rfl)
    subst VO
    have ac6:=zwO (inv.iS r.s) hO
    rw [hO] at gx inv2 xy Df
    have hF:sx facts r.s (some m) r.s=m:=zkV _ _ _
    have hV:vD aI r.s (some m) r.s=aI r.s+1:=zst _ _ _
    rw [hF] at Df
    refine O0 r.s d q _ _ ko _ _ _ S0 E2 (gx.lay _ _).un (by rw [hF];omega) _ (fun h' w2 A2 x o2=>?_)
    rw [hF] at o2
    replace o2:=o2.sl (by decide)
    have Wj:=fun (hh:Heap)=>o2.bd cf hh
    (replace z:=z.an x (by omega);(replace gx:=gx.over x);(replace lK:=lK.over x);(replace s2:=s2.over x);rw [ao h'])
    have gd:=cJ w2
    simp -implicitDefEqProofs only [syms,aa,seval,c6,ek,gd,dJ,dP,bj,dU]
    (with_reducible_and_instances apply cm);(· rfl)
    simp -implicitDefEqProofs only [syms,aa,seval,c6,Bool.not_true,ek,gd,dJ,dP,bj,dU,nZ]
    repeat' ((first|with_reducible_and_instances refine wA (hl.mono z.inc) jw kN (by omega) hr (fun p hp=>?_)|with_reducible_and_instances refine zW hp sk (fun qq hq=>?_)|with_reducible_and_instances refine fX hq gU ?_) <;> simp -implicitDefEqProofs only [syms,aa,seval,c6,ek,gd,dJ,dP,bj,dU,nZ])
    refine YV r.s d q _ _ ko _ _ _ S0 E2 (gx.lay _ _).un _ (fun h' x=>?_)
    rw [hV]
    (replace z:=z.an x (by omega);(replace gx:=gx.over x);(replace lK:=lK.over x);(replace s2:=s2.over x);rw [ao h'])
    simp -implicitDefEqProofs only [syms,aa,seval,c6,bj,dU]
    rw [hwu]
    refine iK (fun he=>absurd rfl he) (fun _=>?_)
    repeat' (first|simp -implicitDefEqProofs only [syms,aa,seval,c6,gd,Wj,bj,dU,NQ,FT]|((with_reducible apply iK) <;> intro _))
    all_goals first
     |(exfalso;omega)
     |(rw [gO]
       (rw [aR];with_reducible refine cz (m:=_) ?_ ⟨i+1,E2,_,_,ko,_,rfl,z,⟨rfl,by omega,gx,inv2,xy,lK,IU⟩,aB (by kernel_rfl)⟩;omega))
    done)
 have kE:i=l.length:=by omega
 clear lr hi gO hE
 have Xw:=qP.dL fr (fun hm=>by have:=Vo _ hm;omega)
 have hfu:=fr.size
 have hz:=z.size
 simp -implicitDefEqProofs only [syms,aa,seval,c6,Gl]
 refine lG (fun h' x hq=>?_)
 have qm:=hq 0 _ rfl
 clear hq
 (replace z:=z.an x (by omega);(replace Xw:=Xw.over x);rw [ao h'])
 have hml:=qm.lt
 have cN:=(aT.refl [] bE).over x
 exact zrj d q b facts aI us p0 p1 p2 p5 p6 P0 S0 (bE.size+0) i (4*i) E h h' z hd Xw (by omega) (by omega) (cF.fresh cN (fun B hB=>by rw [List.mem_singleton.1 hB];exact ⟨by omega,hml⟩)) inv (by omega) JX nB (cC.new qm) K hk _ (aB (by kernel_rfl))
end Go.Proofs.YtdplfgoifjjniaaGreatDoor
