/- The code of some functions, node by node, for simp. Written by a program (mkcode.py). No condition. -/
import Derived.Test.YtdplfgoifjjniaaGreatDoorG27
import Derived.Test.YtdplfgoifjjniaaGreatDoorG25
import Derived.KernelRfl
import Derived.Test.YtdplfgoifjjniaaGreatDoorG43
import Derived.Test.YtdplfgoifjjniaaGreatDoorG33
import Derived.Test.YtdplfgoifjjniaaGreatDoorG46
import Derived.Test.YtdplfgoifjjniaaGreatDoorZV6
import Derived.Test.YtdplfgoifjjniaaGreatDoorG9
import Derived.Test.YtdplfgoifjjniaaGreatDoorG18
namespace Go.Proofs.YtdplfgoifjjniaaGreatDoor
open Go.Am
set_option linter.unusedVariables false
set_option linter.unusedSimpArgs false
set_option maxRecDepth 100000
set_option maxHeartbeats 0
noncomputable def N22:=zaz Tryz.f22
noncomputable def x22:=PLift.up (by have c:=zah N22 Tryz.f22;simp only [zan,Tryz.f22,Option.getD_some,zaj,opsF,opsX,zag,zaA,dstL,zak,List.append_eq,List.cons_append,List.nil_append,seval] at c;exact nd c <| nd @ix52 <| nd @ld42 <| nd @ln52 <| @fi22)
theorem c22:type_of% x22.down:=x22.down
end Go.Proofs.YtdplfgoifjjniaaGreatDoor
namespace Go.Proofs.YtdplfgoifjjniaaGreatDoor
open Go.Am
set_option linter.unusedSimpArgs false
set_option linter.unusedVariables false
set_option maxRecDepth 100000
set_option maxHeartbeats 0
theorem zhl (l m:List AtomD) (v u:Value) (h:Heap) (hl:Sl Rep.atom h v l) (hm:Sl Rep.atom h u m) (hs:l.length≤1000) (hs2:m.length≤1000) (K:Value→Heap→Prop)
 (hk:∀ h',Ext h h'→K (.bool (decide (l=m))) h'):Ok Tryz.prog tab ov 22 [v,u] h K:=by
 rw [zaa h]
 have z:=Ext.refl h
 have hln:=fun (hh:Heap)=>hl.lenA ds52 hh
 have hlm:=fun (hh:Heap)=>hm.lenA ds52 hh
 refine Ok.into rfl zwC (zaB N22) rfl (m:=24) rfl ?_
 simp -implicitDefEqProofs only [syms,symx,seval,c22,hln,hlm]
 refine zd5 (fun hne=>?_) (fun heq=>?_)
 ·rw [decide_eq_false (show ¬ l=m from fun e=>by subst e;exact hne rfl)] at hk
  repeat' ( simp -implicitDefEqProofs only [syms,symx,seval,c22])
  exact hk _ (z.upW _ _ (by omega))
 have hlen:l.length=m.length:=by omega
 repeat' ( simp -implicitDefEqProofs only [syms,symx,seval,c22])
 obtain ⟨I1,hI1⟩:∃ I:Nat→Env→Heap→Prop,I=(fun n e h'=>∃ (i:Nat) (h1:Heap),h'=h1.lay [] h1.low∧Ext h h1∧(n=l.length - i∧i≤l.length∧l.take i=m.take i)∧∃ J:Nat→Value,e=(v::u::jr J 2 3 (.int .i64 i::jr J 6 20 ([])))):=⟨_,rfl⟩
 refine zaI I1 _ (by rw [hI1];exact ⟨0,_,rfl,z,⟨rfl,by omega,rfl⟩,junk (by kernel_rfl)⟩) ?_
 intro n e h' hin
 rw [hI1] at hin
 obtain ⟨i,h1',rfl,z,hinv,J,rfl⟩:=hin
 obtain ⟨rfl,hi,htk⟩:=hinv
 have hw:IntKind.i64.wrap ((i:Int)+1)=((i+1:Nat):Int):=by rw [wrap_i64 (by omega) (by omega)];omega
 simp -implicitDefEqProofs only [syms,symx,seval,c22,hln]
 refine zaE (fun hlt=>?_) (fun hlt=>?_)
 rotate_left
 ·rw [List.take_of_length_le (by omega),List.take_of_length_le (by omega)] at htk
  rw [decide_eq_true htk] at hk
  repeat' ( simp -implicitDefEqProofs only [syms,symx,seval,c22])
  exact hk _ (z.upW _ _ (by omega))
 obtain ⟨r,hr,hr'⟩:=za5 (l:=l) (i:=i) (by omega)
 obtain ⟨s,hs,hs'⟩:=za5 (l:=m) (i:=i) (by omega)
 simp -implicitDefEqProofs only [syms,symx,seval,c22]
 repeat' ((first|((with_reducible  apply zpz ) <;> intro _)|with_reducible_and_instances refine zgu (hl.mono z.inc) ds52 sz42 (by omega) hr (fun p hp=>?_)|with_reducible_and_instances refine zgu (hm.mono z.inc) ds52 sz42 (by omega) hs (fun p hp=>?_)|with_reducible_and_instances refine lda hp ag42 sz42 ?_|with_reducible refine zbT (by simp only [c22]) (z.upW _ _ (by omega)) ?_|((with_reducible refine ⟨z.grw.lay _ _,?_⟩);(intro _ h' zz x _);(try simp only [zat,List.append_nil] at x);(replace z:=zz);(clear zz);rw [zaa h'])) <;> simp -implicitDefEqProofs only [syms,symx,seval,c22,zuo])
 ·have hne:¬ r=s:=by assumption
  rw [decide_eq_false (show ¬ l=m from fun e=>by
   subst e
   rw [hr'] at hs'
   exact hne (Option.some.inj hs'))] at hk
  exact hk _ (z.upW _ _ (by omega))
 ·have he:r=s:=by assumption
  rw [hw]
  (rw [hI1];with_reducible refine zae (m:=_) ?_ ⟨i+1,_,rfl,z,⟨rfl,by omega,by rw [List.take_add_one,List.take_add_one,hr',hs',htk,he]⟩,junk (by kernel_rfl)⟩;omega)
theorem InvS.texts {d:PolicyD} {k m n n2:Nat} {f g:ByteArray→List AtomD} {u v us vs:ByteArray→Nat} (i:InvS d k f u us) (j:InvS d m g v vs) (h:∀ w∈d.principals,f w=g w) (c1:CntU us n) (c2:CntU vs n2):n=n2 :=
 c1.same c2 fun t=>by rw [i.use,j.use,zm4 t h]
theorem zo7 {h1 h2:Heap} {bs:List Blk} {w:Nat} (D:List Nat) (x:Ext (h1.lay bs w) h2):Inc (killL D h1) (killL D h2):=(((Frs.refl [] h1).over x).mono (D':=D) (fun _ h=>nomatch h)).inc (fun B hB=>.inl hB)
open Classical in
theorem zAC {k1 k2:List ByteArray} (n1:k1.Nodup) (n2:k2.Nodup) (h:∀ t∈k1,t∈k2):k1.length≤k2.length:=by
 have hp:(k2.filter fun t=>decide (t∈k1)).Perm k1:=(List.perm_ext_iff_of_nodup (n2.sublist List.filter_sublist) n1).2 fun t=>by
  rw [List.mem_filter]
  simp only [decide_eq_true_eq]
  exact ⟨fun x=>x.2,fun x=>⟨h t x,x⟩⟩
 rw [← hp.length_eq]
 exact List.length_filter_le _ _
theorem CntU.le {us vs:ByteArray→Nat} {n m:Nat} (f:CntU us n) (g:CntU vs m) (h:∀ t,us t≤vs t):n≤m:=by
 obtain ⟨k1,n1,m1,rfl⟩:=f
 obtain ⟨k2,n2,m2,rfl⟩:=g
 exact zAC n1 n2 fun t ht=>(m2 t).2 (Nat.lt_of_lt_of_le ((m1 t).1 ht) (h t))
theorem zpy {f g:ByteArray→List AtomD} (t:ByteArray) (h:∀ w,useA (f w) t≤useA (g w) t):∀ names:List ByteArray,totU names f t≤totU names g t
 | []=>Nat.le_refl _
 |w::r=>by
  have ih:=zpy t h r
  have h1:=h w
  unfold totU at ih ⊢
  rw [List.map_cons,List.map_cons,List.sum_cons,List.sum_cons]
  omega
theorem zB7 {n:Nat} (h:n < 1000000000):IntKind.u64.wrap ((n:Int)+2)=((n+2:Nat):Int):=by
 unfold IntKind.wrap
 simp [IntKind.signed,IntKind.bits]
 omega
theorem zkN (d0:PolicyD) (l:List ActD) (a:AtomD) (who:ByteArray) (v lv:Value) (h:Heap) (hsp:SpaceAt 1 h) (hx:PolV h v d0) (hl:Sl Rep.act h lv l) (K:Value→Heap→Prop)
 (hk:∀ h',Ext h h'→K (.bool true) h'):Ok Tryz.prog tab ov 4 [v,lv,a.val,.string who] h K:=by
 obtain ⟨p0,p1,p2,p5,p6,q,b,rfl,hd0⟩:=hx
 obtain ⟨d,hd,hq,hb⟩:∃ d:PolicyD,PolH h p0 p1 p2 p5 p6 d∧d.quota=q∧d.budget=b:=⟨{ d0 with quota:=q,budget:=b },⟨hd0.s0,hd0.s1,hd0.s2,hd0.s5,hd0.s6⟩,rfl,rfl⟩
 clear hd0
 have hone:=hd.one q b
 rw [zaa h]
 have z:=Ext.refl h
 have hvl:=zaQ lv
 have hll:=fun (hh:Heap)=>hl.lenA ds48 hh
 refine Ok.into rfl zBa (zaB N4) rfl (m:=196) rfl ?_
 simp -implicitDefEqProofs only [syms,symx,seval,c4,zax,zas,valS,hvl]
 refine Ok.over (g:=zqf 1) rfl (zyx (hsp.lay _ _)) ?_
 repeat' (first|simp -implicitDefEqProofs only [syms,symx,seval,c4,Bool.not_true,zax,↓zbG,zbD,za6,hvl]|((with_reducible_and_instances apply zal);(· rfl)))
 refine zik d _ _ _ _ _ _ _ _ (hd.lay _ _) _ (fun b0 b1 b2 b3 b4 b5 b6 b7 h' x=>?_) (fun h' x=>?_)
 rotate_left
 ·(( skip);replace z:=z.overW x (by (try simp only [lsz]);omega);rw [zaa h'])
  repeat' (first|simp -implicitDefEqProofs only [syms,symx,seval,c4,Bool.not_false]|((with_reducible_and_instances apply zal);(· rfl)))
  exact hk _ (z.upW _ _ (by omega))
 have qP:=Holds.top (i:=0) x rfl
 have qA:=Holds.top (i:=1) x rfl
 (( skip);replace z:=z.overW x (by (try simp only [lsz]);omega);rw [zaa h'])
 obtain ⟨P0,hP0⟩:∃ P0,P0=h.size+0:=⟨_,rfl⟩
 rw [← hP0] at qP
 rw [← hP0]
 obtain ⟨P1,hP1⟩:∃ P1,P1=h.size+1:=⟨_,rfl⟩
 rw [← hP1] at qA
 rw [← hP1]
 repeat' (first|simp -implicitDefEqProofs only [syms,symx,seval,c4,Bool.not_true,hvl]|((with_reducible_and_instances apply zal);(· rfl)))
 refine zmW l _ _ ((hl.mono z.inc).lay _ _) _ (fun hl60 hlt h' x=>?_) (fun h' x=>?_)
 rotate_left
 ·(( skip);replace z:=z.overW x (by (try simp only [lsz]);omega);(try replace qP:=qP.over x);(try replace qA:=qA.over x);rw [zaa h'])
  repeat' (first|simp -implicitDefEqProofs only [syms,symx,seval,c4,Bool.not_false]|((with_reducible_and_instances apply zal);(· rfl)))
  exact hk _ (z.upW _ _ (by omega))
 (( skip);replace z:=z.overW x (by (try simp only [lsz]);omega);(try replace qP:=qP.over x);(try replace qA:=qA.over x);rw [zaa h'])
 repeat' (first|simp -implicitDefEqProofs only [syms,symx,seval,c4,Bool.not_true,qA.lay,zas,↓zaG,zaD,zar]|((with_reducible_and_instances apply zal);(· rfl)))
 refine zge a _ _ (fun hla h' x=>?_) (fun _ h' x=>?_)
 rotate_left
 ·(( skip);replace z:=z.overW x (by (try simp only [lsz]);omega);(try replace qP:=qP.over x);(try replace qA:=qA.over x);rw [zaa h'])
  repeat' (first|simp -implicitDefEqProofs only [syms,symx,seval,c4,Bool.not_false]|((with_reducible_and_instances apply zal);(· rfl)))
  exact hk _ (z.upW _ _ (by omega))
 (( skip);replace z:=z.overW x (by (try simp only [lsz]);omega);(try replace qP:=qP.over x);(try replace qA:=qA.over x);rw [zaa h'])
 simp -implicitDefEqProofs only [syms,symx,seval,c4,Bool.not_true,valS]
 (with_reducible_and_instances apply zal);(· rfl)
 simp -implicitDefEqProofs only [syms,symx,seval,c4,Bool.not_true,valS]
 refine zaE (fun _=>?_) (fun hwh=>?_)
 ·simp -implicitDefEqProofs only [syms,symx,seval,c4]
  exact hk _ (z.upW _ _ (by omega))
 simp -implicitDefEqProofs only [syms,symx,seval,c4,qP.lay,zax,↓zbG,zbD,za6]
 have hPN:PolN d:=⟨by omega,by omega,by omega,fun r hr=>by have:=b5 r hr;omega,by omega,fun g hg=>by have:=b7 g hg;omega⟩
 refine zBc d _ _ _ _ _ q b _ ((hsp.ext z).lay _ _) hone ((hd.mono z.inc).lay _ _) hq hb hPN (by omega) (by omega) [] (fun _ h=>nomatch h) _ (fun hne h' x=>?_) (fun heq h' S0 E0 x sps=>?_)
 ·(( skip);replace z:=z.overW x (by (try simp only [lsz]);omega);(try replace qP:=qP.over x);(try replace qA:=qA.over x);rw [zaa h'])
  simp -implicitDefEqProofs only [syms,symx,seval,c4,valN]
  refine zd5 (fun _=>?_) (fun he=>absurd he hne)
  simp -implicitDefEqProofs only [syms,symx,seval,c4]
  exact hk _ (z.upW _ _ (by omega))
 have hPE0:∀ B∈E0,P0 < B∧P1 < B:=fun B hB=>by
  have h1:=(sps.lt.2 B hB).1
  have h2:=qP.lt
  have h3:=qA.lt
  rw [zad] at h1
  omega
 replace sps:=sps.down (N2:=h.size) (by rw [zad];have:=z.size;omega)
 have inv0:=InvS.empty d
 obtain ⟨hnd,hpl⟩:=zn7 heq
 replace qP:=qP.over x
 replace qA:=qA.over x
 replace z:=z.overW x (by omega)
 obtain ⟨hT,hTe⟩:∃ hT,hT=h':=⟨_,rfl⟩
 rw [← hTe] at z sps qP qA ⊢
 clear x hTe
 have hPT:=qP.lt
 have hPT1:=qA.lt
 rw [zaa hT]
 simp -implicitDefEqProofs only [syms,symx,seval,c4,valP,valN]
 obtain ⟨I1,hI1⟩:∃ I:Nat→Env→Heap→Prop,I=(fun n e h'=>∃ (i:Nat) (E:List Nat) (facts:ByteArray→List AtomD) (vers us:ByteArray→Nat) (h1:Heap),h'=h1.lay [] h1.low∧Ext h h1∧(n=l.length - i∧i≤l.length∧SpX [] h.size (4*i) h1 S0 E d q facts vers us∧InvS d i facts vers us∧Frs E0 hT h1∧(∀ B∈E,B∈E0∨hT.size≤B))∧∃ J:Nat→Value,e=(J 0::lv::J 2::.string who::.pointer (some ⟨P0,0,none⟩)::J 5::.pointer (some ⟨P1,0,none⟩)::jr J 7 2 (.pointer (some ⟨S0,0,none⟩)::J 10::.int .i64 i::jr J 12 188 ([])))):=⟨_,rfl⟩
 refine zaI I1 _ (by rw [hI1];exact ⟨0,E0,_,_,_,_,rfl,z,⟨rfl,by omega,sps,inv0,Frs.refl _ _,fun B hB=>.inl hB⟩,junk (by kernel_rfl)⟩) ?_
 intro n e h' hin
 rw [hI1] at hin
 obtain ⟨i,E,facts,vers,us,h1',rfl,z,hinv,J,rfl⟩:=hin
 clear sps inv0
 obtain ⟨rfl,hi,sps,inv,fr,hE⟩:=hinv
 have hwi:IntKind.i64.wrap ((i:Int)+1)=((i+1:Nat):Int):=by rw [wrap_i64 (by omega) (by omega)];omega
 have hz:=z.size
 have hln:=inv.len
 have hEl:=fun B hB=>(sps.lt.2 B hB).2
 simp -implicitDefEqProofs only [syms,symx,seval,c4,hvl,hll]
 refine zaE (fun hlt'=>?_) (fun hge=>?_)
 ·obtain ⟨r,hr,hr'⟩:=za5 (l:=l) (i:=i) (by omega)
  have hrl:=(hlt r (List.mem_of_getElem? hr')).2
  simp -implicitDefEqProofs only [syms,symx,seval,c4,valP,valS]
  refine zgO who d q facts vers us _ _ _ S0 E (sps.lay _ _).un (by have:=hln who;omega) _ (fun h' w1 A1 x o1=>?_)
  have hEb:∀ B∈E,B < (h1'.lay [] h1'.low).size:=fun B hB=>by rw [zad];have:=hEl B hB;omega
  (( skip);replace z:=z.overW x (by (try simp only [lsz]);omega);(try replace sps:=sps.over x);(try replace fr:=fr.over x);rw [zaa h'])
  have hvw1:=zaQ w1
  simp -implicitDefEqProofs only [syms,symx,seval,c4,hvw1,valS,valP]
  refine zeF who d q facts vers us _ _ _ S0 E (sps.lay _ _).un _ (fun h' x=>?_)
  (( skip);replace z:=z.overW x (by (try simp only [lsz]);omega);(try replace sps:=sps.over x);(try replace fr:=fr.over x);(try replace o1:=o1.over x);rw [zaa h'])
  simp -implicitDefEqProofs only [syms,symx,seval,c4,hvw1,valS,valP,valN,hvl]
  repeat' ((first|with_reducible_and_instances refine zrT (hl.mono z.inc) ds48 sz57 (by omega) hr (fun p hp=>?_)|with_reducible_and_instances refine zCI hp zsI (fun qq hq=>?_)|with_reducible_and_instances refine zcq hq ag3 ?_) <;> simp -implicitDefEqProofs only [syms,symx,seval,c4,hvw1,valS,valP,valN,hvl])
  refine zBn r.k 2 _ _ (by decide) ?_
  simp -implicitDefEqProofs only [syms,symx,seval,c4,hvw1,valS,valP,valN,hvl]
  have hsz:=z.size
  have s1:=o1.killL (D:=E) (fun _ _ _ _ q=>q) (by decide) hEb
  refine zaE (fun hp=>?_) (fun hp=>?_)
  focus
   have hlx:locX d q r (facts r.s)=locA d q r.s r.a (facts r.s):=if_pos ((zp0 r.k).1 hp)
   simp -implicitDefEqProofs only [syms,symx,seval,c4]
   with_reducible first|refine zbT (by simp only [c4]) (z.upW _ _ (by omega)) ?_
   repeat' (first|simp -implicitDefEqProofs only [syms,symx,seval,c4,hvw1,valS,valP,valN,hvl]|with_reducible_and_instances refine zrT (hl.mono z.inc) ds48 sz57 (by omega) hr (fun p hp=>?_)|with_reducible_and_instances refine zpv hp zho (fun qq hq=>?_)|with_reducible_and_instances refine zso hp zkq (fun qq hq=>?_)|with_reducible_and_instances refine zcq hq ag9 ?_|with_reducible_and_instances refine lda hq ag42 sz42 ?_)
   refine zko d q r.s r.a facts vers us h _ (z.upW _ _ (by omega)) h.size (4*i) i S0 E rfl [] (sps.lay _ _) inv hnd hpl ((hsp.ext z).lay _ _) hrl (by omega) (by omega) _ (fun h3 E2 us2 z2 f2 hE2 sp2 inv2=>?_)
   rw [← hlx] at sp2 inv2
   have hs3:=f2.size
   rw [zad] at hs3
   refine zej (by kernel_rfl) z2.low (by rw [zad];exact hs3) ?_
   have hfs:=fr.size
   have fr2:Frs E0 hT h3:=(fr.trans (Frs.lay _ [] _ []) (fun _ h=>by simp at h)).trans f2 hE
   have hE3:∀ B∈E2,B∈E0∨hT.size≤B:=fun B hB=>(hE2 B hB).elim (hE B) (fun e=>.inr (by rw [zad] at e;omega))
   have s2:=s1.mono (((Frs.lay _ [] _ E).trans f2 (fun B hB=>.inl hB)).inc (D':=E2) (fun B hB=>(hE2 B hB).imp id (fun e=>by rw [zad] at e;simpa using e)))
   replace s2:=s2.mono (zbY _ _)
   clear z sps fr o1 s1 hlx
   have z:=z2
   rw [zaa h3]
   simp -implicitDefEqProofs only [syms,symx,seval,c4]
   ((with_reducible refine ⟨z.grw.lay _ _,?_⟩);(intro _ h6 zz x _);(try simp only [zat,List.append_nil] at x))
   replace sp2:=sp2.over x
   replace fr2:=fr2.over x
   replace s2:=s2.mono x.inc.of_lay
   clear z
   have z:=zz
   rw [zaa h6]
   simp -implicitDefEqProofs only [syms,symx,seval,c4]
  rotate_left
  focus
   have hlx:locX d q r (facts r.s)=locR d r.s r.a (facts r.s):=if_neg (fun e=>hp ((zp0 r.k).2 e))
   simp -implicitDefEqProofs only [syms,symx,seval,c4]
   with_reducible first|refine zbT (by simp only [c4]) (z.upW _ _ (by omega)) ?_
   repeat' (first|simp -implicitDefEqProofs only [syms,symx,seval,c4,hvw1,valS,valP,valN,hvl]|with_reducible_and_instances refine zrT (hl.mono z.inc) ds48 sz57 (by omega) hr (fun p hp=>?_)|with_reducible_and_instances refine zpv hp zho (fun qq hq=>?_)|with_reducible_and_instances refine zso hp zkq (fun qq hq=>?_)|with_reducible_and_instances refine zcq hq ag9 ?_|with_reducible_and_instances refine lda hq ag42 sz42 ?_)
   refine zja d q r.s r.a facts vers us h _ (z.upW _ _ (by omega)) h.size (4*i) i S0 E rfl [] (sps.lay _ _) inv hnd hpl ((hsp.ext z).lay _ _) hrl (by omega) (by omega) _ (fun h3 E2 us2 z2 f2 hE2 sp2 inv2=>?_)
   rw [← hlx] at sp2 inv2
   have hs3:=f2.size
   rw [zad] at hs3
   refine zej (by kernel_rfl) z2.low (by rw [zad];exact hs3) ?_
   have hfs:=fr.size
   have fr2:Frs E0 hT h3:=(fr.trans (Frs.lay _ [] _ []) (fun _ h=>by simp at h)).trans f2 hE
   have hE3:∀ B∈E2,B∈E0∨hT.size≤B:=fun B hB=>(hE2 B hB).elim (hE B) (fun e=>.inr (by rw [zad] at e;omega))
   have s2:=s1.mono (((Frs.lay _ [] _ E).trans f2 (fun B hB=>.inl hB)).inc (D':=E2) (fun B hB=>(hE2 B hB).imp id (fun e=>by rw [zad] at e;simpa using e)))
   replace s2:=s2.mono (zbY _ _)
   clear z sps fr o1 s1 hlx
   have z:=z2
   rw [zaa h3]
   simp -implicitDefEqProofs only [syms,symx,seval,c4]
   ((with_reducible refine ⟨z.grw.lay _ _,?_⟩);(intro _ h6 zz x _);(try simp only [zat,List.append_nil] at x))
   replace sp2:=sp2.over x
   replace fr2:=fr2.over x
   replace s2:=s2.mono x.inc.of_lay
   clear z
   have z:=zz
   rw [zaa h6]
   simp -implicitDefEqProofs only [syms,symx,seval,c4]
  rotate_left
  all_goals
   have hln2:=inv2.len
   have hzz:=z.size
   repeat' ((first|((with_reducible  apply zaE ) <;> intro _)|with_reducible_and_instances refine zrT (hl.mono z.inc) ds48 sz57 (by omega) hr (fun p hp=>?_)|with_reducible_and_instances refine zpv hp zho (fun qq hq=>?_)|with_reducible_and_instances refine zcq hq ag9 ?_) <;> simp -implicitDefEqProofs only [syms,symx,seval,c4,hvw1,valS,valP,valN,hvl])
   ·rename_i hne
    have e1:ze0 facts r.s (locX d q r (facts r.s)) who=facts who:=zf7 hne
    have e2:ze5 vers r.s (locX d q r (facts r.s)) who=vers who:=zpp hne
    refine zgO who d q _ _ us2 _ _ _ S0 E2 (sp2.lay _ _).un (by have:=hln2 who;omega) _ (fun h' w2 A2 x o2=>?_)
    rw [e1] at o2
    replace s2:=Sl.mono s2 x.inc.of_lay
    replace o2:=(o2.lay [] h'.low).sl (by decide)
    (( skip);replace z:=z.overW x (by (try simp only [lsz]);omega);(try replace sp2:=sp2.over x);(try replace fr2:=fr2.over x);(try replace s2:=s2.over x);rw [zaa h'])
    have hvw2:=zaQ w2
    simp -implicitDefEqProofs only [syms,symx,seval,c4,hvw1,hvw2,valS,valP,valN]
    refine zhl _ _ w1 w2 _ (s2.lay _ _) (o2.mono (Inc.refl _)) (by have:=hln who;omega) (by have:=hln who;omega) _ (fun h' x=>?_)
    rw [decide_eq_true rfl]
    (( skip);replace z:=z.overW x (by (try simp only [lsz]);omega);(try replace sp2:=sp2.over x);(try replace fr2:=fr2.over x);(try replace s2:=s2.over x);rw [zaa h'])
    simp -implicitDefEqProofs only [syms,symx,seval,c4,Bool.not_true,valS,valP,valN]
    (with_reducible_and_instances apply zal);(· rfl)
    simp -implicitDefEqProofs only [syms,symx,seval,c4,Bool.not_true,valS,valP,valN]
    refine zeF who d q _ _ us2 _ _ _ S0 E2 (sp2.lay _ _).un _ (fun h' x=>?_)
    rw [e2]
    (( skip);replace z:=z.overW x (by (try simp only [lsz]);omega);(try replace sp2:=sp2.over x);(try replace fr2:=fr2.over x);(try replace s2:=s2.over x);rw [zaa h'])
    simp -implicitDefEqProofs only [syms,symx,seval,c4,valS,valP,valN]
    refine zd5 (fun he=>absurd rfl he) (fun _=>?_)
    simp -implicitDefEqProofs only [syms,symx,seval,c4]
    rw [hwi]
    (rw [hI1];with_reducible refine zae (m:=_) ?_ ⟨i+1,E2,_,_,us2,_,rfl,z,⟨rfl,by omega,sp2,inv2,fr2,hE3⟩,junk (by kernel_rfl)⟩;omega)
   ·rw [hwi]
    (rw [hI1];with_reducible refine zae (m:=_) ?_ ⟨i+1,E2,_,_,us2,_,rfl,z,⟨rfl,by omega,sp2,inv2,fr2,hE3⟩,junk (by kernel_rfl)⟩;omega)
 have qAU:=qA.frs fr (fun hm=>by have:=hPE0 _ hm;omega)
 have hil:i=l.length:=by omega
 clear hge hi hwi
 have hEl:=fun B hB=>(sps.lt.2 B hB).2
 have hfu:=fr.size
 have hlna:=inv.len a.says
 have hva:=inv.ver a.says
 simp -implicitDefEqProofs only [syms,symx,seval,c4]
 with_reducible first|refine zbT (by simp only [c4]) (z.upW _ _ (by omega)) ?_
 simp -implicitDefEqProofs only [syms,symx,seval,c4,valP,qAU.lay,zes,valS]
 refine zgO a.says d q facts vers us _ _ _ S0 E (sps.lay _ _).un (by omega) _ (fun h' w1 A1 x o1=>?_)
 have hEb:∀ B∈E,B < (h1'.lay [] (h1'.size+0)).size:=fun B hB=>by rw [zad];have:=hEl B hB;omega
 (( ((with_reducible refine zaq ?_ ?_ ?_);(· exact (by (try simp only [lsz]);have:=z.size;omega));(·  exact x )) );replace z:=z.overW x (by (try simp only [lsz]);omega);(try replace sps:=sps.over x);(try replace qAU:=qAU.over x);rw [zaa h'])
 have hvw1:=zaQ w1
 simp -implicitDefEqProofs only [syms,symx,seval,c4,hvw1,valP,qAU.lay,zes,valS]
 refine zeF a.says d q facts vers us _ _ _ S0 E (sps.lay _ _).un _ (fun h' x=>?_)
 (( ((with_reducible refine zaq ?_ ?_ ?_);(· exact (by (try simp only [lsz]);have:=z.size;omega));(·  exact x )) );replace z:=z.overW x (by (try simp only [lsz]);omega);(try replace sps:=sps.over x);(try replace qAU:=qAU.over x);(try replace o1:=o1.over x);rw [zaa h'])
 simp -implicitDefEqProofs only [syms,symx,seval,c4,hvw1,valN,valP,qAU.lay,zes,valS]
 refine ziF d q facts vers us _ _ _ S0 E (sps.lay _ _).un _ (fun h' n1 x c1 hn1=>?_)
 (( ((with_reducible refine zaq ?_ ?_ ?_);(· exact (by (try simp only [lsz]);have:=z.size;omega));(·  exact x )) );replace z:=z.overW x (by (try simp only [lsz]);omega);(try replace sps:=sps.over x);(try replace qAU:=qAU.over x);(try replace o1:=o1.over x);rw [zaa h'])
 simp -implicitDefEqProofs only [syms,symx,seval,c4,hvw1,valN,valP,qAU.lay,zes,valS]
 ((with_reducible refine ⟨z.grw.lay _ _,?_⟩);(intro _ h' zz x _);(try simp only [zat,List.append_nil] at x);(try replace sps:=sps.over x);(try replace qAU:=qAU.over x);(try replace o1:=o1.over x);(replace z:=zz);(clear zz);rw [zaa h'])
 simp -implicitDefEqProofs only [syms,symx,seval,c4,hvw1,valN,valP,qAU.lay,zes,valS,zas,↓zaG,zaD,zar]
 have hsz:=z.size
 have hEl2:=fun B hB=>(sps.lt.2 B hB).2
 have hPE:∀ B∈E,P1 < B:=fun B hB=>by
  rcases hE B hB with e|e
  ·exact (hPE0 B e).2
  ·omega
 have s1:=o1.killL (D:=E) (fun _ _ _ _ q=>q) (by decide) hEb
 refine zko d q a.says a facts vers us h _ (z.upW _ _ (by omega)) h.size (4*i) i S0 E rfl [] (sps.lay _ _) inv hnd hpl ((hsp.ext z).lay _ _) hla (by omega) (by omega) _ (fun h3 E2 us2 z2 f2 hE2 sp2 inv2=>?_)
 have s2:=s1.mono (((Frs.lay _ [] _ E).trans f2 (fun B hB=>.inl hB)).inc (D':=E2) (fun B hB=>(hE2 B hB).imp id (fun e=>by rw [zad] at e;simpa using e)))
 have qA2:=qAU.frs ((Frs.lay _ [] _ E).trans f2 (fun B hB=>.inl hB)) (fun hm=>by have:=hPE _ hm;omega)
 have hfs2:=f2.size
 rw [zad] at hfs2
 clear z sps o1 s1
 have z:=z2
 rw [zaa h3]
 cases hloc:locA d q a.says a (facts a.says) with
 |none =>
  rw [hloc] at sp2 inv2
  rw [zeb,zd2] at sp2 inv2
  simp -implicitDefEqProofs only [syms,symx,seval,c4,Option.isSome_none,valT,valB,valN]
  (with_reducible_and_instances apply zal);(· rfl)
  simp -implicitDefEqProofs only [syms,symx,seval,c4,Bool.not_false]
  rcases zBx hloc with ⟨hne,he⟩|⟨h0,hh,he⟩|he
  ·rw [he]
   refine zd5 (fun _=>?_) (fun e=>absurd e hne)
   simp -implicitDefEqProofs only [syms,symx,seval,c4,valP,qA2.lay,zas,↓zaG,zaD,zar]
   refine zkK a d q facts vers us2 _ _ _ S0 E2 (sp2.lay _ _).un (by omega) _ (fun h' x=>?_)
   rw [decide_eq_false (inv.not_mem hne)]
   (( skip);replace z:=z.overW x (by (try simp only [lsz]);omega);(try replace sp2:=sp2.over x);(try replace qA2:=qA2.over x);rw [zaa h'])
   simp -implicitDefEqProofs only [syms,symx,seval,c4]
   (with_reducible_and_instances apply zal);(· rfl)
   simp -implicitDefEqProofs only [syms,symx,seval,c4,Bool.not_false]
   exact hk _ (z.upW _ _ (by omega))
  ·rw [he]
   refine zd5 (fun e=>absurd rfl e) (fun _=>?_)
   simp -implicitDefEqProofs only [syms,symx,seval,c4,valP,qA2.lay,zas,↓zaG,zaD,zar]
   refine zkK a d q facts vers us2 _ _ _ S0 E2 (sp2.lay _ _).un (by omega) _ (fun h' x=>?_)
   rw [decide_eq_true ((inv.has h0).1 hh)]
   (( skip);replace z:=z.overW x (by (try simp only [lsz]);omega);(try replace sp2:=sp2.over x);(try replace qA2:=qA2.over x);rw [zaa h'])
   simp -implicitDefEqProofs only [syms,symx,seval,c4]
   exact hk _ (z.upW _ _ (by omega))
  ·rw [he]
   refine zd5 (fun _=>?_) (fun e=>absurd e (by decide))
   simp -implicitDefEqProofs only [syms,symx,seval,c4,valP,qA2.lay,zas,↓zaG,zaD,zar]
   refine zkK a d q facts vers us2 _ _ _ S0 E2 (sp2.lay _ _).un (by omega) _ (fun h' x=>?_)
   (( skip);replace z:=z.overW x (by (try simp only [lsz]);omega);(try replace sp2:=sp2.over x);(try replace qA2:=qA2.over x);rw [zaa h'])
   cases decide (a∈facts a.says)
   ·simp -implicitDefEqProofs only [syms,symx,seval,c4]
    (with_reducible_and_instances apply zal);(· rfl)
    simp -implicitDefEqProofs only [syms,symx,seval,c4,Bool.not_false]
    exact hk _ (z.upW _ _ (by omega))
   ·simp -implicitDefEqProofs only [syms,symx,seval,c4]
    (with_reducible_and_instances apply zal);(· rfl)
    simp -implicitDefEqProofs only [syms,symx,seval,c4,Bool.not_true]
    exact hk _ (z.upW _ _ (by omega))
 |some m =>
  obtain ⟨h0,hh,rfl,hmq⟩:=zBC hloc
  rw [hloc] at sp2 inv2
  simp -implicitDefEqProofs only [syms,symx,seval,c4,Option.isSome_some,valT,valB,valN]
  (with_reducible_and_instances apply zal);(· rfl)
  simp -implicitDefEqProofs only [syms,symx,seval,c4,Bool.not_true,valP,qA2.lay,zas,↓zaG,zaD,zar]
  have hF2:ze0 facts a.says (some (putA a (facts a.says))) a.says=putA a (facts a.says):=zhb _ _ _
  have hV2:ze5 vers a.says (some (putA a (facts a.says))) a.says=vers a.says+1:=zhc _ _ _
  have he0:errA d q a.says a (facts a.says)=0:=by unfold errA;rw [if_pos h0,if_neg (by rw [hh];decide),if_pos hmq]
  have hpl2:=zlj a (facts a.says)
  generalize hF:ze0 facts a.says (some (putA a (facts a.says)))=F2 at sp2 inv2 hF2
  generalize hV:ze5 vers a.says (some (putA a (facts a.says)))=V2 at sp2 inv2 hV2
  refine zkK a d q F2 V2 us2 _ _ _ S0 E2 (sp2.lay _ _).un (by rw [hF2];omega) _ (fun h' x=>?_)
  rw [hF2,decide_eq_true (zA7 hh)]
  replace s2:=Sl.mono s2 (zo7 E2 x)
  (( skip);replace z:=z.overW x (by (try simp only [lsz]);omega);(try replace sp2:=sp2.over x);(try replace qA2:=qA2.over x);rw [zaa h'])
  simp -implicitDefEqProofs only [syms,symx,seval,c4]
  (with_reducible_and_instances apply zal);(· rfl)
  simp -implicitDefEqProofs only [syms,symx,seval,c4,Bool.not_true,valP]
  refine ziF d q F2 V2 us2 _ _ _ S0 E2 (sp2.lay _ _).un _ (fun h' n2 x c2 _=>?_)
  replace s2:=Sl.mono s2 (zo7 E2 x)
  (( skip);replace z:=z.overW x (by (try simp only [lsz]);omega);(try replace sp2:=sp2.over x);(try replace qA2:=qA2.over x);rw [zaa h'])
  have hnn:n1≤n2:=c1.le c2 (fun t=>by
   rw [inv.use,inv2.use]
   refine zpy t (fun w=>?_) _
   by_cases hw:w=a.says
   ·subst hw
    rw [hF2,ztR hh]
    omega
   ·rw [← hF,zf7 (fun e=>hw e.symm)]
    exact Nat.le_refl _)
  simp -implicitDefEqProofs only [syms,symx,seval,c4,valN]
  refine zaE (fun e=>absurd e (by omega)) (fun _=>?_)
  simp -implicitDefEqProofs only [syms,symx,seval,c4,valP,valS,zes,qA2.lay,zas,↓zaG,zaD,zar]
  have hsz:=z.size
  have hPE2:∀ B∈E2,P1 < B:=fun B hB=>by
   rcases hE2 B hB with e|e
   ·exact hPE B e
   ·have h1:=qAU.lt
    rw [zad] at e
    omega
  have hlo2:locR d a.says a (F2 a.says)=some (facts a.says):=by
   unfold locR
   rw [hF2,if_pos h0,if_pos (zzk hh),inv.back h0 hh]
  refine zja d q a.says a F2 V2 us2 h _ (z.upW _ _ (by omega)) h.size _ (i+1) S0 E2 rfl [] (sp2.lay _ _) inv2 hnd hpl ((hsp.ext z).lay _ _) hla (by omega) (by omega) _ (fun h4 E3 us3 z3 f3 hE3 sp3 inv3=>?_)
  rw [hlo2] at sp3 inv3
  have s3:=s2.mono (((Frs.lay _ [] _ E2).trans f3 (fun B hB=>.inl hB)).inc (D':=E3) (fun B hB=>(hE3 B hB).imp id (fun e=>by rw [zad] at e;simpa using e)))
  replace s3:=s3.mono (zbY _ _)
  have qA3:=qA2.frs ((Frs.lay _ [] _ E2).trans f3 (fun B hB=>.inl hB)) (fun hm=>by have:=hPE2 _ hm;omega)
  have hF3:∀ w,ze0 F2 a.says (some (facts a.says)) w=facts w:=fun w=>by
   by_cases hw:w=a.says
   ·rw [hw,zhb];rfl
   ·rw [zf7 (fun e=>hw e.symm),← hF,zf7 (fun e=>hw e.symm)]
  have hV3:ze5 V2 a.says (some (facts a.says)) a.says=vers a.says+2:=by rw [zhc,hV2];rfl
  rw [hlo2,h0]
  clear z sp2 s2 qA2
  have z:=z3
  rw [zaa h4]
  simp -implicitDefEqProofs only [syms,symx,seval,c4,Option.isSome_some,valT,valB,valN,valP,valS,zes,qA3.lay]
  have hF4:=hF3 a.says
  have hlen3:=inv3.len a.says
  generalize hG:ze0 F2 a.says (some (facts a.says))=F3 at sp3 inv3 hF3 hF4 hlen3
  generalize hW:ze5 V2 a.says (some (facts a.says))=V3 at sp3 inv3 hV3
  refine zgO a.says d q F3 V3 us3 _ _ _ S0 E3 (sp3.lay _ _).un (by omega) _ (fun h' w2 A2 x o2=>?_)
  rw [hF4] at o2
  replace o2:=(o2.lay [] h'.low).sl (by decide)
  (( skip);replace z:=z.overW x (by (try simp only [lsz]);omega);(try replace sp3:=sp3.over x);(try replace qA3:=qA3.over x);(try replace s3:=s3.over x);rw [zaa h'])
  have hvw2:=zaQ w2
  simp -implicitDefEqProofs only [syms,symx,seval,c4,hvw1,hvw2]
  refine zhl _ _ w2 w1 _ (o2.mono (Inc.refl _)) (s3.lay _ _) (by omega) (by omega) _ (fun h' x=>?_)
  rw [decide_eq_true rfl]
  (( skip);replace z:=z.overW x (by (try simp only [lsz]);omega);(try replace sp3:=sp3.over x);(try replace qA3:=qA3.over x);(try replace s3:=s3.over x);rw [zaa h'])
  simp -implicitDefEqProofs only [syms,symx,seval,c4,valN,valP,valS,zes,qA3.lay]
  refine zeF a.says d q F3 V3 us3 _ _ _ S0 E3 (sp3.lay _ _).un _ (fun h' x=>?_)
  rw [hV3]
  (( skip);replace z:=z.overW x (by (try simp only [lsz]);omega);(try replace sp3:=sp3.over x);(try replace qA3:=qA3.over x);(try replace s3:=s3.over x);rw [zaa h'])
  have hwv:IntKind.u64.wrap ((vers a.says:Int)+2)=((vers a.says+2:Nat):Int):=zB7 (by omega)
  simp -implicitDefEqProofs only [syms,symx,seval,c4,valN,valP]
  rw [hwv]
  simp -implicitDefEqProofs only [syms,symx,seval,c4,valN,valP]
  refine ziF d q F3 V3 us3 _ _ _ S0 E3 (sp3.lay _ _).un _ (fun h' n3 x c3 _=>?_)
  (( skip);replace z:=z.overW x (by (try simp only [lsz]);omega);(try replace sp3:=sp3.over x);(try replace qA3:=qA3.over x);(try replace s3:=s3.over x);rw [zaa h'])
  have hnn3:=InvS.texts inv3 inv (fun w _=>hF3 w) c3 c1
  subst hnn3
  simp -implicitDefEqProofs only [syms,symx,seval,c4,valN]
  exact hk _ (z.upW _ _ (by omega))
end Go.Proofs.YtdplfgoifjjniaaGreatDoor
