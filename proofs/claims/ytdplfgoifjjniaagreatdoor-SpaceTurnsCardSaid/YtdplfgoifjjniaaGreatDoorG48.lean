/- The code of some functions, node by node, for simp. Written by a program (mkcode.py). No condition. -/
import Derived.Test.YtdplfgoifjjniaaGreatDoorG27
import Derived.Test.YtdplfgoifjjniaaGreatDoorG25
import Derived.KernelRfl
import Derived.Test.YtdplfgoifjjniaaGreatDoorG43
import Derived.Test.YtdplfgoifjjniaaGreatDoorG34
import Derived.Test.YtdplfgoifjjniaaGreatDoorG46
import Derived.Test.YtdplfgoifjjniaaGreatDoorZV6
import Derived.Test.YtdplfgoifjjniaaGreatDoorG9
import Derived.Test.YtdplfgoifjjniaaGreatDoorG18
namespace Go.Proofs.YtdplfgoifjjniaaGreatDoor
open Go.Am
set_option linter.unusedVariables false
set_option linter.unusedSimpArgs false
set_option maxRecDepth 100000
set_option maxHeartbeats 0
noncomputable def N22:=zaA Tryz.f22
noncomputable def x22:=PLift.up (by have c:=zah N22 Tryz.f22;simp only [zal,Tryz.f22,Option.getD_some,zaj,opsF,opsX,zag,zaz,dstL,zak,List.append_eq,List.cons_append,List.nil_append,seval] at c;exact nd c <| nd @ix52 <| nd @ld42 <| nd @ln52 <| @fi22)
theorem c22:type_of% x22.down:=x22.down
end Go.Proofs.YtdplfgoifjjniaaGreatDoor
namespace Go.Proofs.YtdplfgoifjjniaaGreatDoor
open Go.Am
set_option linter.unusedSimpArgs false
set_option linter.unusedVariables false
set_option maxRecDepth 100000
set_option maxHeartbeats 0
theorem zmB (l m:List AtomD) (v u:Value) (h:Heap) (hl:Sl Rep.atom h v l) (hm:Sl Rep.atom h u m) (hs:l.length≤1000) (hs2:m.length≤1000) (K:Value→Heap→Prop)
 (hk:∀ h',Ext h h'→K (.bool (decide (l=m))) h'):Ok Tryz.prog tab ov 22 [v,u] h K:=by
 rw [zaa h]
 have z:=Ext.refl h
 have hln:=fun (hh:Heap)=>hl.lenA ds52 hh
 have hlm:=fun (hh:Heap)=>hm.lenA ds52 hh
 refine Ok.into rfl zvp (zaB N22) rfl (m:=24) rfl ?_
 simp -implicitDefEqProofs only [syms,symx,seval,c22,hln,hlm]
 refine zeJ (fun hne=>?_) (fun heq=>?_)
 ·rw [decide_eq_false (show ¬ l=m from fun e=>by subst e;exact hne rfl)] at hk
  repeat' ( simp -implicitDefEqProofs only [syms,symx,seval,c22])
  exact hk _ (z.upW _ _ (by omega))
 have hlen:l.length=m.length:=by omega
 repeat' ( simp -implicitDefEqProofs only [syms,symx,seval,c22])
 obtain ⟨I1,hI1⟩:∃ I:Nat→Env→Heap→Prop,I=(fun n e h'=>∃ (i:Nat) (h1:Heap),h'=h1.lay [] h1.low∧Ext h h1∧(n=l.length - i∧i≤l.length∧l.take i=m.take i)∧∃ J:Nat→Value,e=(v::u::jr J 2 3 (.int .i64 i::jr J 6 20 ([])))):=⟨_,rfl⟩
 refine zaF I1 _ (by rw [hI1];exact ⟨0,_,rfl,z,⟨rfl,by omega,rfl⟩,junk (by kernel_rfl)⟩) ?_
 intro n e h' hin
 rw [hI1] at hin
 obtain ⟨i,h1',rfl,z,hinv,J,rfl⟩:=hin
 obtain ⟨rfl,hi,htk⟩:=hinv
 have hw:IntKind.i64.wrap ((i:Int)+1)=((i+1:Nat):Int):=by rw [wrap_i64 (by omega) (by omega)];omega
 simp -implicitDefEqProofs only [syms,symx,seval,c22,hln]
 refine zaD (fun hlt=>?_) (fun hlt=>?_)
 rotate_left
 ·rw [List.take_of_length_le (by omega),List.take_of_length_le (by omega)] at htk
  rw [decide_eq_true htk] at hk
  repeat' ( simp -implicitDefEqProofs only [syms,symx,seval,c22])
  exact hk _ (z.upW _ _ (by omega))
 obtain ⟨r,hr,hr'⟩:=za4 (l:=l) (i:=i) (by omega)
 obtain ⟨s,hs,hs'⟩:=za4 (l:=m) (i:=i) (by omega)
 simp -implicitDefEqProofs only [syms,symx,seval,c22]
 repeat' ((first|((with_reducible  apply zpe ) <;> intro _)|with_reducible_and_instances refine zhm (hl.mono z.inc) ds52 sz42 (by omega) hr (fun p hp=>?_)|with_reducible_and_instances refine zhm (hm.mono z.inc) ds52 sz42 (by omega) hs (fun p hp=>?_)|with_reducible_and_instances refine lda hp ag42 sz42 ?_|with_reducible refine zb7 (by simp only [c22]) (z.upW _ _ (by omega)) ?_|((with_reducible refine ⟨z.grw.lay _ _,?_⟩);(intro _ h' zz x _);(try simp only [zat,List.append_nil] at x);(replace z:=zz);(clear zz);rw [zaa h'])) <;> simp -implicitDefEqProofs only [syms,symx,seval,c22,zuI])
 ·have hne:¬ r=s:=by assumption
  rw [decide_eq_false (show ¬ l=m from fun e=>by
   subst e
   rw [hr'] at hs'
   exact hne (Option.some.inj hs'))] at hk
  exact hk _ (z.upW _ _ (by omega))
 ·have he:r=s:=by assumption
  rw [hw]
  (rw [hI1];with_reducible refine zae (m:=_) ?_ ⟨i+1,_,rfl,z,⟨rfl,by omega,by rw [List.take_add_one,List.take_add_one,hr',hs',htk,he]⟩,junk (by kernel_rfl)⟩;omega)
theorem InvS.texts {d:PolicyD} {k m n n2:Nat} {f g:ByteArray→List AtomD} {u v us vs:ByteArray→Nat} (i:InvS d k f u us) (j:InvS d m g v vs) (h:∀ w∈d.principals,f w=g w) (c1:CntU us n) (c2:CntU vs n2):n=n2 :=
 c1.same c2 fun t=>by rw [i.use,j.use,zlE t h]
theorem zk9 (d0:PolicyD) (l:List ActD) (v lv:Value) (h:Heap) (hsp:SpaceAt 1 h) (hx:PolV h v d0) (hl:Sl Rep.act h lv l) (K:Value→Heap→Prop)
 (hk:∀ h',Ext h h'→K (.bool true) h'):Ok Tryz.prog tab ov 5 [v,lv] h K:=by
 obtain ⟨p0,p1,p2,p5,p6,q,b,rfl,hd0⟩:=hx
 obtain ⟨d,hd,hq,hb⟩:∃ d:PolicyD,PolH h p0 p1 p2 p5 p6 d∧d.quota=q∧d.budget=b:=⟨{ d0 with quota:=q,budget:=b },⟨hd0.s0,hd0.s1,hd0.s2,hd0.s5,hd0.s6⟩,rfl,rfl⟩
 clear hd0
 have hone:=hd.one q b
 rw [zaa h]
 have z:=Ext.refl h
 have hv0:=zaR p0
 have hvl:=zaR lv
 have hll:=fun (hh:Heap)=>hl.lenA ds48 hh
 refine Ok.into rfl zBJ (zaB N5) rfl (m:=127) rfl ?_
 simp -implicitDefEqProofs only [syms,symx,seval,c5,zaw]
 refine Ok.over (g:=zrF 1) rfl (zwJ (hsp.lay _ _)) ?_
 repeat' (first|simp -implicitDefEqProofs only [syms,symx,seval,c5,Bool.not_true,zaw,↓zbw,zbq,zaY,hvl]|((with_reducible_and_instances apply zap);(· rfl)))
 refine zjc d _ _ _ _ _ _ _ _ (hd.lay _ _) _ (fun b0 b1 b2 b3 b4 b5 b6 b7 h' x=>?_) (fun h' x=>?_)
 rotate_left
 ·(( skip);replace z:=z.overW x (by (try simp only [lsz]);omega);rw [zaa h'])
  repeat' (first|simp -implicitDefEqProofs only [syms,symx,seval,c5,Bool.not_false]|((with_reducible_and_instances apply zap);(· rfl)))
  exact hk _ (z.upW _ _ (by omega))
 have qP:=Holds.top (i:=0) x rfl
 (( skip);replace z:=z.overW x (by (try simp only [lsz]);omega);rw [zaa h'])
 obtain ⟨P0,hP0⟩:∃ P0,P0=h.size+0:=⟨_,rfl⟩
 rw [← hP0] at qP
 rw [← hP0]
 repeat' (first|simp -implicitDefEqProofs only [syms,symx,seval,c5,Bool.not_true,hvl]|((with_reducible_and_instances apply zap);(· rfl)))
 refine zlp l _ _ ((hl.mono z.inc).lay _ _) _ (fun hl60 hlt h' x=>?_) (fun h' x=>?_)
 rotate_left
 ·(( skip);replace z:=z.overW x (by (try simp only [lsz]);omega);(try replace qP:=qP.over x);rw [zaa h'])
  repeat' (first|simp -implicitDefEqProofs only [syms,symx,seval,c5,Bool.not_false]|((with_reducible_and_instances apply zap);(· rfl)))
  exact hk _ (z.upW _ _ (by omega))
 (( skip);replace z:=z.overW x (by (try simp only [lsz]);omega);(try replace qP:=qP.over x);rw [zaa h'])
 repeat' (first|simp -implicitDefEqProofs only [syms,symx,seval,c5,Bool.not_true,qP.lay,zaw,↓zbw,zbq,zaY]|((with_reducible_and_instances apply zap);(· rfl)))
 have hPN:PolN d:=⟨by omega,by omega,by omega,fun r hr=>by have:=b5 r hr;omega,by omega,fun g hg=>by have:=b7 g hg;omega⟩
 refine znF d _ _ _ _ _ q b _ ((hsp.ext z).lay _ _) hone ((hd.mono z.inc).lay _ _) hq hb hPN (by omega) (by omega) [] (fun _ h=>nomatch h) _ (fun hne h' x=>?_) (fun heq h' S0 E0 x sps=>?_)
 ·(( skip);replace z:=z.overW x (by (try simp only [lsz]);omega);(try replace qP:=qP.over x);rw [zaa h'])
  simp -implicitDefEqProofs only [syms,symx,seval,c5,valN,qP.lay,zaw,↓zbw,zbq,zaY]
  refine znF d _ _ _ _ _ q b _ ((hsp.ext z).lay _ _) hone ((hd.mono z.inc).lay _ _) hq hb hPN (by omega) (by omega) [] (fun _ h=>nomatch h) _ (fun hne h' x=>?_) (fun heq=>absurd heq hne)
  (( skip);replace z:=z.overW x (by (try simp only [lsz]);omega);(try replace qP:=qP.over x);rw [zaa h'])
  simp -implicitDefEqProofs only [syms,symx,seval,c5,valN]
  refine zeJ (fun _=>?_) (fun he=>absurd he hne)
  simp -implicitDefEqProofs only [syms,symx,seval,c5,valN]
  exact hk _ (z.upW _ _ (by omega))
 have hPE0:∀ B∈E0,P0 < B:=fun B hB=>by
  have h1:=(sps.lt.2 B hB).1
  have h2:=qP.lt
  rw [zad] at h1
  omega
 replace sps:=sps.down (N2:=h.size) (by rw [zad];have:=z.size;omega)
 have inv0:=InvS.empty d
 obtain ⟨hnd,hpl⟩:=znr heq
 (( skip);replace z:=z.overW x (by (try simp only [lsz]);omega);(try replace qP:=qP.over x);rw [zaa h'])
 simp -implicitDefEqProofs only [syms,symx,seval,c5,valP,valN,qP.lay,zaw,↓zbw,zbq,zaY]
 refine znF d _ _ _ _ _ q b _ ((hsp.ext z).lay _ _) hone ((hd.mono z.inc).lay _ _) hq hb hPN (by omega) (by omega) E0 (fun B hB=>by rw [zad];have:=(sps.lt.2 B hB).2;omega) _ (fun hne=>absurd heq hne) (fun _ hT S1 E1 x spt=>?_)
 have hE1:=spt.lt.2
 have hE1b:∀ B∈E1,P0 < B:=fun B hB=>by
  have h1:=(hE1 B hB).1
  have h2:=qP.lt
  rw [zad] at h1
  omega
 replace sps:=(sps.lay _ _).fresh (x.frs []) hE1
 replace spt:=spt.down (N2:=h.size) (by rw [zad];have:=z.size;omega)
 replace qP:=qP.over x
 replace z:=z.overW x (by omega)
 have hPT:=qP.lt
 rw [zaa hT]
 simp -implicitDefEqProofs only [syms,symx,seval,c5,valP,valN]
 have hv1:∀ (a:Addr) (h:Heap) (K:Value→Heap→Prop),valE (some (.pointer (some a))) h K=K (.pointer (some a)) h:=fun _ _ _=>rfl
 obtain ⟨I1,hI1⟩:∃ I:Nat→Env→Heap→Prop,I=(fun n e h'=>∃ (i:Nat) (Es:List Nat) (facts:ByteArray→List AtomD) (vers us:ByteArray→Nat) (h1:Heap),h'=h1.lay [] h1.low∧Ext h h1∧(n=l.length - i∧i≤l.length∧SpX E1 h.size (4*i) h1 S0 Es d q facts vers us∧InvS d i facts vers us∧RunS d q (l.take i) facts vers∧Frs E0 hT h1∧(∀ B∈Es,B∈E0∨hT.size≤B))∧∃ J:Nat→Value,e=(J 0::lv::.pointer (some ⟨P0,0,none⟩)::jr J 3 2 (.pointer (some ⟨S0,0,none⟩)::J 6::.pointer (some ⟨S1,0,none⟩)::J 8::.int .i64 i::jr J 10 119 ([])))):=⟨_,rfl⟩
 refine zaF I1 _ (by rw [hI1];exact ⟨0,E0,_,_,_,_,rfl,z,⟨rfl,by omega,sps,inv0,RunS.nil d q,Frs.refl _ _,fun B hB=>.inl hB⟩,junk (by kernel_rfl)⟩) ?_
 intro n e h' hin
 rw [hI1] at hin
 obtain ⟨i,Es,facts,vers,us,h1',rfl,z,hinv,J,rfl⟩:=hin
 clear sps inv0
 obtain ⟨rfl,hi,sps,inv,run,fr,hE⟩:=hinv
 have hwi:IntKind.i64.wrap ((i:Int)+1)=((i+1:Nat):Int):=by rw [wrap_i64 (by omega) (by omega)];omega
 have hz:=z.size
 simp -implicitDefEqProofs only [syms,symx,seval,c5,hvl,hll]
 refine zaD (fun hlt'=>?_) (fun hge=>?_)
 ·obtain ⟨r,hr,hr'⟩:=za4 (l:=l) (i:=i) (by omega)
  have hrl:=(hlt r (List.mem_of_getElem? hr')).2
  have htk:l.take (i+1)=l.take i++[r]:=by rw [List.take_add_one,hr'];rfl
  simp -implicitDefEqProofs only [syms,symx,seval,c5,hvl,hv1]
  repeat' ((first|with_reducible_and_instances refine zBI (hl.mono z.inc) ds48 sz57 (by omega) hr (fun p hp=>?_)|with_reducible_and_instances refine zBM hp ag57 sz57 ?_) <;> simp -implicitDefEqProofs only [syms,symx,seval,c5,hvl,hv1])
  refine ztf d q r facts vers us h _ (z.upW _ _ (by omega)) h.size (4*i) i S0 Es rfl E1 (sps.lay _ _) inv hnd hpl ((hsp.ext z).lay _ _) hrl (by omega) (by omega) _ (fun h' E2 us2 z2 f2 hE2 sp2 inv2=>?_)
  clear z
  have z:=z2
  have run2:=run.snoc r
  rw [← htk] at run2
  have hfs:=fr.size
  have fr2:Frs E0 hT h':=(fr.trans (Frs.lay h1' [] h1'.low []) (fun _ h=>by simp at h)).trans f2 hE
  have hE3:∀ B∈E2,B∈E0∨hT.size≤B:=fun B hB=>(hE2 B hB).elim (hE B) (fun e=>.inr (by rw [zad] at e;omega))
  rw [zaa h']
  simp -implicitDefEqProofs only [syms,symx,seval,c5]
  rw [hwi]
  (rw [hI1];with_reducible refine zae (m:=_) ?_ ⟨i+1,E2,_,_,us2,_,rfl,z,⟨rfl,by omega,sp2,inv2,run2,fr2,hE3⟩,junk (by kernel_rfl)⟩;omega)
 have hil:i=l.length:=by omega
 rw [List.take_of_length_le (by omega)] at run
 obtain ⟨hU,hUe⟩:∃ hU,hU=h1':=⟨_,rfl⟩
 rw [← hUe] at z sps fr hz ⊢
 clear hge hi hwi hUe
 have qPU:=qP.frs fr (fun hm=>by have:=hPE0 _ hm;omega)
 have sptU:=spt.by fr
 have hPU:=qPU.lt
 have hzU:=z.size
 have hlp:∀ hh:Heap,lenA tab 23 p0 hh=some (.int .i64 d.principals.length):=fun hh=>hd.s0.lenA ds23 hh
 have hwl:IntKind.i64.wrap ((d.principals.length:Int) - 1)=(d.principals.length:Int) - 1:=wrap_i64 (by omega) (by omega)
 simp -implicitDefEqProofs only [syms,symx,seval,c5,qPU.lay,pol0,hv0,hlp]
 rw [hwl]
 obtain ⟨I2,hI2⟩:∃ I:Nat→Env→Heap→Prop,I=(fun n e h'=>∃ (k:Nat) (E:List Nat) (b':Nat) (fa:ByteArray→List AtomD) (ve ut:ByteArray→Nat) (h1:Heap),h'=h1.lay [] h1.low∧Ext h h1∧(n=k∧k≤d.principals.length∧b'+240*k≤3840∧SpX [] h.size b' h1 S1 E d q fa ve ut∧InvS d 60 fa ve ut∧RunS d q (byS l (d.principals.drop k).reverse) fa ve∧Frs E1 hU h1∧(∀ B∈E,B∈E1∨hU.size≤B))∧∃ J:Nat→Value,e=(J 0::lv::.pointer (some ⟨P0,0,none⟩)::jr J 3 2 (.pointer (some ⟨S0,0,none⟩)::J 6::.pointer (some ⟨S1,0,none⟩)::jr J 8 2 (.int .i64 ((k:Int) - 1)::jr J 11 118 ([]))))):=⟨_,rfl⟩
 refine zaF I2 _ (by rw [hI2];exact ⟨d.principals.length,E1,0,_,_,_,_,rfl,z,⟨rfl,Nat.le_refl _,by omega,sptU,(InvS.empty d).more (by omega),by rw [List.drop_length];exact RunS.nil d q,Frs.refl _ _,fun B hB=>.inl hB⟩,junk (by kernel_rfl)⟩) ?_
 intro n e h' hin
 rw [hI2] at hin
 obtain ⟨k,E,b',fa,ve,ut,h1',rfl,z,hinv,J,rfl⟩:=hin
 obtain ⟨rfl,hk16,hb',spt2,invt,runt,frt,hEt⟩:=hinv
 have hz:=z.size
 simp -implicitDefEqProofs only [syms,symx,seval,c5]
 refine zaD (fun hge=>?_) (fun hlt'=>?_)
 ·obtain ⟨k,rfl⟩:∃ j,n=j+1:=⟨n - 1,by omega⟩
  obtain ⟨w,hw⟩:∃ w,d.principals[k]? = some w:=⟨_,List.getElem?_eq_getElem (by omega)⟩
  have hk1:((k+1:Nat):Int) - 1=(k:Int):=by omega
  have hwk:IntKind.i64.wrap ((k:Int) - 1)=(k:Int) - 1:=wrap_i64 (by omega) (by omega)
  simp -implicitDefEqProofs only [syms,symx,seval,c5,hk1]
  obtain ⟨I3,hI3⟩:∃ I:Nat→Env→Heap→Prop,I=(fun n e h'=>∃ (i:Nat) (E2:List Nat) (b2':Nat) (fa2:ByteArray→List AtomD) (ve2 ut2:ByteArray→Nat) (h1:Heap),h'=h1.lay [] h1.low∧Ext h h1∧(n=l.length - i∧i≤l.length∧b2'+4*(l.length - i)+240*k≤3840∧SpX [] h.size b2' h1 S1 E2 d q fa2 ve2 ut2∧InvS d 60 fa2 ve2 ut2∧RunS d q (zh5 l d.principals k i w) fa2 ve2∧Frs E1 hU h1∧(∀ B∈E2,B∈E1∨hU.size≤B))∧∃ J:Nat→Value,e=(J 0::lv::.pointer (some ⟨P0,0,none⟩)::jr J 3 2 (.pointer (some ⟨S0,0,none⟩)::J 6::.pointer (some ⟨S1,0,none⟩)::jr J 8 2 (.int .i64 k::.int .i64 i::jr J 12 117 ([]))))):=⟨_,rfl⟩
  refine zaF I3 _ (by rw [hI3];exact ⟨0,E,b',fa,ve,ut,_,rfl,z,⟨rfl,by omega,by omega,spt2,invt,by rw [zqD];exact runt,frt,hEt⟩,junk (by kernel_rfl)⟩) ?_
  intro n e h' hin
  rw [hI3] at hin
  obtain ⟨i,E2,b2',fa2,ve2,ut2,h1',rfl,z,hinv,J,rfl⟩:=hin
  clear spt2 invt runt frt hEt hz
  obtain ⟨rfl,hi,hb2,spt2,invt,runt,frt,hEt⟩:=hinv
  have hwi:IntKind.i64.wrap ((i:Int)+1)=((i+1:Nat):Int):=by rw [wrap_i64 (by omega) (by omega)];omega
  have hz:=z.size
  have qPK:=qPU.frs frt (fun hm=>by have:=hE1b _ hm;omega)
  simp -implicitDefEqProofs only [syms,symx,seval,c5,hvl,hll]
  refine zaD (fun hlt'=>?_) (fun hge=>?_)
  ·obtain ⟨r,hr,hr'⟩:=za4 (l:=l) (i:=i) (by omega)
   have hrl:=(hlt r (List.mem_of_getElem? hr')).2
   have hfs:=frt.size
   have hds:=zp8 (P:=d.principals) (k:=k) (w:=w) hr'
   simp -implicitDefEqProofs only [syms,symx,seval,c5]
   with_reducible first|refine zb7 (by simp only [c5]) (z.upW _ _ (by omega)) ?_
   simp -implicitDefEqProofs only [syms,symx,seval,c5,hvl,hv0,qPK.lay,pol0]
   repeat' ((first|((with_reducible  apply zaD ) <;> intro _)|with_reducible_and_instances refine zBI (hl.mono z.inc) ds48 sz57 (by omega) hr (fun p hp=>?_)|with_reducible_and_instances refine zxQ hp zh9 (fun qq hq=>?_)|with_reducible_and_instances refine zcJ hq ag9 ?_|with_reducible_and_instances refine zgx (hd.s0.mono z.inc) ds23 sz9 (by omega) (by simpa using hw) (fun p hp=>?_)|with_reducible_and_instances refine zcJ hp ag9 ?_|with_reducible_and_instances refine zBM hp ag57 sz57 ?_|((with_reducible refine ⟨z.grw.lay _ _,?_⟩);(intro _ h' zz x _);(try simp only [zat,List.append_nil] at x);(try replace spt2:=spt2.over x);(try replace qPK:=qPK.over x);(try replace frt:=frt.over x);(replace z:=zz);(clear zz);rw [zaa h'])) <;> simp -implicitDefEqProofs only [syms,symx,seval,c5,hvl,hv0,hv1,qPK.lay,pol0])
   ·have hrw:r.s=w:=by assumption
    rw [if_pos hrw] at hds
    refine ztf d q r fa2 ve2 ut2 h _ (z.upW _ _ (by omega)) h.size b2' 60 S1 E2 rfl [] (spt2.lay _ _) invt hnd hpl ((hsp.ext z).lay _ _) hrl (by omega) (by omega) _ (fun h3 E3 us3 z2 f2 hE2 sp3 inv3=>?_)
    clear z
    have z:=z2
    have run3:=runt.snoc r
    rw [← hds] at run3
    have hfs2:=frt.size
    have fr3:Frs E1 hU h3:=(frt.trans (Frs.lay _ [] _ []) (fun _ h=>by simp at h)).trans f2 hEt
    have hE3:∀ B∈E3,B∈E1∨hU.size≤B:=fun B hB=>(hE2 B hB).elim (hEt B) (fun e=>.inr (by rw [zad] at e;omega))
    have hle:=run3.le (fun x=>Nat.le_trans (zuD hnd hw x) hl60)
    have inv4:=inv3.re (fun x=>(hle x).1) (fun x=>(hle x).2)
    rw [zaa h3]
    simp -implicitDefEqProofs only [syms,symx,seval,c5]
    rw [hwi]
    (rw [hI3];with_reducible refine zae (m:=_) ?_ ⟨i+1,E3,b2'+4,_,_,us3,_,rfl,z,⟨rfl,by omega,by omega,sp3,inv4,run3,fr3,hE3⟩,junk (by kernel_rfl)⟩;omega)
   ·have hrw:¬ r.s=w:=by assumption
    rw [if_neg hrw] at hds
    rw [hwi]
    (rw [hI3];with_reducible refine zae (m:=_) ?_ ⟨i+1,E2,b2',fa2,ve2,ut2,_,rfl,z,⟨rfl,by omega,by omega,spt2,invt,by rw [hds];exact runt,frt,hEt⟩,junk (by kernel_rfl)⟩;omega)
  ·have he:i=l.length:=by omega
   rw [he,zqQ hw] at runt
   simp -implicitDefEqProofs only [syms,symx,seval,c5]
   rw [hwk]
   (rw [hI2];with_reducible refine zae (m:=_) ?_ ⟨k,E2,b2',fa2,ve2,ut2,_,rfl,z,⟨rfl,by omega,by omega,spt2,invt,runt,frt,hEt⟩,junk (by kernel_rfl)⟩;omega)
 have hn0:n=0:=by omega
 subst hn0
 rw [List.drop_zero] at runt
 have spsV:=sps.by frt
 have qPV:=qPU.frs frt (fun hm=>by have:=hE1b _ hm;omega)
 have hsame:∀ w∈d.principals,facts w=fa w∧vers w=ve w:=fun w hw=>RunS.same run runt ((List.reverse_perm _).nodup_iff.2 hnd) (List.mem_reverse.2 hw)
 have sptV:=spt2
 have hls:=inv.len
 have hlt2:=invt.len
 clear sps spt2 frt hEt fr hE qPU sptU hzU
 simp -implicitDefEqProofs only [syms,symx,seval,c5]
 obtain ⟨I4,hI4⟩:∃ I:Nat→Env→Heap→Prop,I=(fun n e h'=>∃ (j:Nat) (h1:Heap),h'=h1.lay [] h1.low∧Ext h h1∧(n=d.principals.length - j∧j≤d.principals.length∧SpX [] h.size (4*i) h1 S0 Es d q facts vers us∧SpX [] h.size b' h1 S1 E d q fa ve ut∧Holds h1 P0 (.row (zav p0 p1 p2 p5 p6 q b) 29 false))∧∃ J:Nat→Value,e=(J 0::lv::.pointer (some ⟨P0,0,none⟩)::jr J 3 2 (.pointer (some ⟨S0,0,none⟩)::J 6::.pointer (some ⟨S1,0,none⟩)::jr J 8 4 (.int .i64 j::jr J 13 116 ([]))))):=⟨_,rfl⟩
 refine zaF I4 _ (by rw [hI4];exact ⟨0,_,rfl,z,⟨rfl,by omega,spsV,sptV,qPV⟩,junk (by kernel_rfl)⟩) ?_
 intro n e h' hin
 rw [hI4] at hin
 obtain ⟨j,h1',rfl,z,hinv,J,rfl⟩:=hin
 clear spsV sptV qPV
 obtain ⟨rfl,hj,spsV,sptV,qPV⟩:=hinv
 have hwj:IntKind.i64.wrap ((j:Int)+1)=((j+1:Nat):Int):=by rw [wrap_i64 (by omega) (by omega)];omega
 simp -implicitDefEqProofs only [syms,symx,seval,c5,qPV.lay,pol0,hv0,hlp]
 refine zaD (fun hlt'=>?_) (fun hge=>?_)
 rotate_left
 ·simp -implicitDefEqProofs only [syms,symx,seval,c5,hv1,valP]
  refine znb d q facts vers us _ _ _ S0 Es (spsV.lay _ _).un _ (fun h' n1 x c1 _=>?_)
  (( skip);replace z:=z.overW x (by (try simp only [lsz]);omega);(try replace spsV:=spsV.over x);(try replace sptV:=sptV.over x);(try replace qPV:=qPV.over x);rw [zaa h'])
  simp -implicitDefEqProofs only [syms,symx,seval,c5,valN,valP]
  refine znb d q fa ve ut _ _ _ S1 E (sptV.lay _ _).un _ (fun h' n2 x c2 _=>?_)
  (( skip);replace z:=z.overW x (by (try simp only [lsz]);omega);(try replace spsV:=spsV.over x);(try replace sptV:=sptV.over x);(try replace qPV:=qPV.over x);rw [zaa h'])
  have hnn:=InvS.texts inv invt (fun w hw=>(hsame w hw).1) c1 c2
  subst hnn
  simp -implicitDefEqProofs only [syms,symx,seval,c5,valN]
  exact hk _ (z.upW _ _ (by omega))
 obtain ⟨w,hr,hr'⟩:=za4 (l:=d.principals) (i:=j) (by omega)
 obtain ⟨e1,e2⟩:=hsame w (List.mem_of_getElem? hr')
 have hlw:=hls w
 have hlw2:=hlt2 w
 simp -implicitDefEqProofs only [syms,symx,seval,c5,qPV.lay,pol0,hv0]
 repeat' ((first|with_reducible_and_instances refine zgx (hd.s0.mono z.inc) ds23 sz9 (by omega) hr (fun p hp=>?_)|with_reducible_and_instances refine zcJ hp ag9 ?_) <;> simp -implicitDefEqProofs only [syms,symx,seval,c5,qPV.lay,pol0,hv0,valS,valP])
 refine zmS w d q facts vers us _ _ _ S0 Es (spsV.lay _ _).un (by omega) _ (fun h' w1 A1 x o1=>?_)
 (( skip);replace z:=z.overW x (by (try simp only [lsz]);omega);(try replace spsV:=spsV.over x);(try replace sptV:=sptV.over x);(try replace qPV:=qPV.over x);rw [zaa h'])
 have hvw1:=zaR w1
 simp -implicitDefEqProofs only [syms,symx,seval,c5,hvw1,valS,valP]
 refine zmS w d q fa ve ut _ _ _ S1 E (sptV.lay _ _).un (by omega) _ (fun h' w2 A2 x o2=>?_)
 (( skip);replace z:=z.overW x (by (try simp only [lsz]);omega);(try replace spsV:=spsV.over x);(try replace sptV:=sptV.over x);(try replace qPV:=qPV.over x);(try replace o1:=o1.over x);rw [zaa h'])
 have hvw2:=zaR w2
 simp -implicitDefEqProofs only [syms,symx,seval,c5,hvw1,hvw2,valS,valP]
 refine zmB _ _ w1 w2 _ ((o1.lay _ _).sl (by decide)) ((o2.lay _ _).sl (by decide)) (by omega) (by omega) _ (fun h' x=>?_)
 rw [decide_eq_true e1]
 (( skip);replace z:=z.overW x (by (try simp only [lsz]);omega);(try replace spsV:=spsV.over x);(try replace sptV:=sptV.over x);(try replace qPV:=qPV.over x);(try replace o1:=o1.over x);rw [zaa h'])
 simp -implicitDefEqProofs only [syms,symx,seval,c5,Bool.not_true,valS,valP]
 (with_reducible_and_instances apply zap);(· rfl)
 simp -implicitDefEqProofs only [syms,symx,seval,c5,Bool.not_true,valS,valP]
 refine zh7 w d q facts vers us _ _ _ S0 Es (spsV.lay _ _).un _ (fun h' x=>?_)
 (( skip);replace z:=z.overW x (by (try simp only [lsz]);omega);(try replace spsV:=spsV.over x);(try replace sptV:=sptV.over x);(try replace qPV:=qPV.over x);(try replace o1:=o1.over x);rw [zaa h'])
 simp -implicitDefEqProofs only [syms,symx,seval,c5,valN,valS,valP]
 refine zh7 w d q fa ve ut _ _ _ S1 E (sptV.lay _ _).un _ (fun h' x=>?_)
 rw [← e2]
 (( skip);replace z:=z.overW x (by (try simp only [lsz]);omega);(try replace spsV:=spsV.over x);(try replace sptV:=sptV.over x);(try replace qPV:=qPV.over x);(try replace o1:=o1.over x);rw [zaa h'])
 simp -implicitDefEqProofs only [syms,symx,seval,c5,valN,valS,valP]
 refine zeJ (fun he=>absurd rfl he) (fun _=>?_)
 simp -implicitDefEqProofs only [syms,symx,seval,c5,valN,valS,valP]
 refine zlV w d q facts vers us _ _ _ S0 Es (spsV.lay _ _).un _ (fun h' x=>?_)
 (( skip);replace z:=z.overW x (by (try simp only [lsz]);omega);(try replace spsV:=spsV.over x);(try replace sptV:=sptV.over x);(try replace qPV:=qPV.over x);(try replace o1:=o1.over x);rw [zaa h'])
 simp -implicitDefEqProofs only [syms,symx,seval,c5,valN,valS,valP]
 refine zlV w d q fa ve ut _ _ _ S1 E (sptV.lay _ _).un _ (fun h' x=>?_)
 rw [← e1]
 (( skip);replace z:=z.overW x (by (try simp only [lsz]);omega);(try replace spsV:=spsV.over x);(try replace sptV:=sptV.over x);(try replace qPV:=qPV.over x);(try replace o1:=o1.over x);rw [zaa h'])
 simp -implicitDefEqProofs only [syms,symx,seval,c5,valN,valS,valP]
 refine zeJ (fun he=>absurd rfl he) (fun _=>?_)
 simp -implicitDefEqProofs only [syms,symx,seval,c5,valN,valS,valP]
 rw [hwj]
 (rw [hI4];with_reducible refine zae (m:=_) ?_ ⟨j+1,_,rfl,z,⟨rfl,by omega,spsV,sptV,qPV⟩,junk (by kernel_rfl)⟩;omega)
end Go.Proofs.YtdplfgoifjjniaaGreatDoor
