/- Walks: what is gone through, on; lists of one's own. Written out by fill2.py. No condition. -/
import Derived.Test.YtdplfgoifjjniaaGreatDoorG37
import Derived.Test.YtdplfgoifjjniaaGreatDoorG13
import Derived.Test.YtdplfgoifjjniaaGreatDoorG27
import Derived.Test.YtdplfgoifjjniaaGreatDoorG25
import Derived.KernelRfl
import Derived.Test.YtdplfgoifjjniaaGreatDoorG45
namespace Go.Proofs.YtdplfgoifjjniaaGreatDoor
open Go.Am
set_option linter.unusedSimpArgs false
set_option linter.unusedVariables false
set_option maxRecDepth 100000
set_option maxHeartbeats 0
def zjv (n m:Int):Int:=if m < 1 then 0 else if n.tmod m < 0 then n.tmod m+m else n.tmod m
theorem zv9 (n m:Int) (hm:1≤m):0≤zjv n m∧zjv n m < m:=by
 unfold zjv
 rw [if_neg (by omega)]
 have h1:=Int.tmod_lt_of_pos n (show 0 < m by omega)
 have h2:=Int.lt_tmod_of_pos n (show 0 < m by omega)
 split <;> omega
theorem zyJ (n m:Int) (h:Heap) (K:Value→Heap→Prop) (hm:m≤4611686018427387904) (hk:K (.int .i64 (zjv n m)) h):Ok Tryz.prog tab ov 9 [.int .i64 n,.int .i64 m] h K:=by
 refine Ok.into rfl zAr (zaB N9) rfl (m:=15) rfl ?_
 simp -implicitDefEqProofs only [syms,symx,seval,c9]
 refine zaD (fun c=>?_) (fun c=>?_)
 ·simp -implicitDefEqProofs only [syms,symx,seval,c9]
  have:zjv n m=0:=by unfold zjv;rw [if_pos c]
  rw [this] at hk
  exact hk
 have hb:=zv9 n m (by omega)
 have hd:zjv n m=if n.tmod m < 0 then n.tmod m+m else n.tmod m:=by unfold zjv;rw [if_neg c]
 simp -implicitDefEqProofs only [syms,symx,seval,c9]
 rw [zx4 (by omega)]
 simp -implicitDefEqProofs only [syms,symx,seval,c9]
 refine zaD (fun c2=>?_) (fun c2=>?_)
 ·rw [if_pos c2] at hd
  rw [hd] at hk hb
  simp -implicitDefEqProofs only [syms,symx,seval,c9]
  rw [wrap_i64 (by omega) (by omega)]
  exact hk
 ·rw [if_neg c2] at hd
  rw [hd] at hk
  simp -implicitDefEqProofs only [syms,symx,seval,c9]
  exact hk
end Go.Proofs.YtdplfgoifjjniaaGreatDoor
namespace Go.Proofs.YtdplfgoifjjniaaGreatDoor
open Go.Am
set_option linter.unusedVariables false
set_option linter.unusedSimpArgs false
set_option maxRecDepth 100000
set_option maxHeartbeats 0
noncomputable def N24:=zaA Tryz.f24
noncomputable def x24:=PLift.up (by have c:=zah N24 Tryz.f24;simp only [zal,Tryz.f24,Option.getD_some,zaj,opsF,opsX,zag,zaz,dstL,zak,List.append_eq,List.cons_append,List.nil_append,seval] at c;exact nd c <| nd @zuM <| nd @zh9 <| nd @zlu <| nd @ld3 <| nd @ld42 <| nd @ld9 <| nd @fi24 <| @fj24)
theorem c24:type_of% x24.down:=x24.down
noncomputable def N18:=zaA Tryz.f18
noncomputable def x18:=PLift.up (by have c:=zah N18 Tryz.f18;simp only [zal,Tryz.f18,Option.getD_some,zaj,opsF,opsX,zag,zaz,dstL,zak,List.append_eq,List.cons_append,List.nil_append,seval] at c;exact nd c <| nd @zh9 <| nd @zlu <| nd @ix48 <| nd @ld42 <| nd @ld9 <| nd @ln48 <| nd @ln9 <| @fi18)
theorem c18:type_of% x18.down:=x18.down
noncomputable def N5:=zaA Tryz.f5
noncomputable def x5:=PLift.up (by have c:=zah N5 Tryz.f5;simp only [zal,Tryz.f5,Option.getD_some,zaj,opsF,opsX,zag,zaz,dstL,zak,List.append_eq,List.cons_append,List.nil_append,seval] at c;exact nd c <| nd @zj3 <| nd @zh9 <| nd @ix23 <| nd @ix48 <| nd @ld23 <| nd @ld29 <| nd @ld57 <| nd @ld9 <| nd @ln23 <| nd @ln48 <| @fi5)
theorem c5:type_of% x5.down:=x5.down
noncomputable def N4:=zaA Tryz.f4
noncomputable def x4:=PLift.up (by have c:=zah N4 Tryz.f4;simp only [zal,Tryz.f4,Option.getD_some,zaj,opsF,opsX,zag,zaz,dstL,zak,List.append_eq,List.cons_append,List.nil_append,seval] at c;exact nd c <| nd @zhc <| nd @zuM <| nd @zh9 <| nd @zlu <| nd @ix48 <| nd @ld29 <| nd @ld3 <| nd @ld42 <| nd @ld9 <| nd @ln48 <| nd @ln9 <| @fi4)
theorem c4:type_of% x4.down:=x4.down
noncomputable def N3:=zaA Tryz.f3
noncomputable def x3:=PLift.up (by have c:=zah N3 Tryz.f3;simp only [zal,Tryz.f3,Option.getD_some,zaj,opsF,opsX,zag,zaz,dstL,zak,List.append_eq,List.cons_append,List.nil_append,seval] at c;exact nd c <| nd @al29 <| nd @bs23 <| nd @zl2 <| nd @ld29 <| nd @ld3 <| @fi3)
theorem c3:type_of% x3.down:=x3.down
noncomputable def N6:=zaA Tryz.f6
noncomputable def x6:=PLift.up (by have c:=zah N6 Tryz.f6;simp only [zal,Tryz.f6,Option.getD_some,zaj,opsF,opsX,zag,zaz,dstL,zak,List.append_eq,List.cons_append,List.nil_append,seval] at c;exact nd c <| nd @zj3 <| nd @zl2 <| nd @zhc <| nd @zuM <| nd @zh9 <| nd @zlu <| nd @ix23 <| nd @ix48 <| nd @ix52 <| nd @ld23 <| nd @ld29 <| nd @ld3 <| nd @ld42 <| nd @ld9 <| nd @ln23 <| nd @ln48 <| nd @ln52 <| @fi6)
theorem c6:type_of% x6.down:=x6.down
noncomputable def N13:=zaA Tryz.f13
noncomputable def x13:=PLift.up (by have c:=zah N13 Tryz.f13;simp only [zal,Tryz.f13,Option.getD_some,zaj,opsF,opsX,zag,zaz,dstL,zak,List.append_eq,List.cons_append,List.nil_append,seval] at c;exact nd c <| @fi13)
noncomputable def N12:=zaA Tryz.f12
noncomputable def x12:=PLift.up (by have c:=zah N12 Tryz.f12;simp only [zal,Tryz.f12,Option.getD_some,zaj,opsF,opsX,zag,zaz,dstL,zak,List.append_eq,List.cons_append,List.nil_append,seval] at c;exact nd c <| nd @al42 <| nd @zo3 <| nd @zpK <| nd @ix23 <| nd @ix40 <| nd @ld42 <| nd @ld9 <| nd @ln23 <| @fi12)
noncomputable def N8:=zaA Tryz.f8
noncomputable def x8:=PLift.up (by have c:=zah N8 Tryz.f8;simp only [zal,Tryz.f8,Option.getD_some,zaj,opsF,opsX,zag,zaz,dstL,zak,List.append_eq,List.cons_append,List.nil_append,seval] at c;exact nd c <| nd @al29 <| nd @bs23 <| nd @bs24 <| nd @bs25 <| nd @bs26 <| nd @bs27 <| nd @bs52 <| nd @fi8 <| @ld29)
end Go.Proofs.YtdplfgoifjjniaaGreatDoor
namespace Go.Proofs.YtdplfgoifjjniaaGreatDoor
open Go.Am
set_option linter.unusedSimpArgs false
set_option linter.unusedVariables false
set_option maxRecDepth 100000
set_option maxHeartbeats 0
theorem zo2 (k:Int):(zjv k 2=0)↔k.tmod 2=0:=by
 unfold zjv
 rw [if_neg (by omega)]
 have h1:=Int.tmod_lt_of_pos k (show (0:Int) < 2 by omega)
 have h2:=Int.lt_tmod_of_pos k (show (0:Int) < 2 by omega)
 split <;> omega
theorem zlp (l:List ActD) (v:Value) (h:Heap) (hl:Sl Rep.act h v l) (K:Value→Heap→Prop)
 (h1k:l.length≤60→(∀ c∈l,c.s.size≤300∧c.a.light=true)→∀ h',Ext h h'→K (.bool true) h') (h2k:∀ h',Ext h h'→K (.bool false) h'):Ok Tryz.prog tab ov 18 [v] h K:=by
 rw [zaa h]
 have z:=Ext.refl h
 have hvv:=zaR v
 have hlv:=fun (hh:Heap)=>hl.lenA ds48 hh
 refine Ok.into rfl zxt (zaB N18) rfl (m:=28) rfl ?_
 simp -implicitDefEqProofs only [syms,symx,seval,c18]
 obtain ⟨I1,hI1⟩:∃ I:Nat→Env→Heap→Prop,I=(fun n e h'=>∃ (i:Nat) (h1:Heap),h'=h1.lay [] h1.low∧Ext h h1∧(n=l.length - i∧i≤l.length∧(∀ c∈l.take i,c.s.size≤300∧c.a.light=true))∧∃ J:Nat→Value,e=(v::jr J 1 2 (.int .i64 i::jr J 4 25 ([])))):=⟨_,rfl⟩
 refine zaF I1 _ (by rw [hI1];exact ⟨0,_,rfl,z,⟨rfl,by omega,by simp⟩,junk (by kernel_rfl)⟩) ?_
 intro n e h' hin
 rw [hI1] at hin
 obtain ⟨i,h1',rfl,z,hinv,J,rfl⟩:=hin
 obtain ⟨rfl,hi,hall⟩:=hinv
 have hle:=hl.le
 simp -implicitDefEqProofs only [syms,symx,seval,c18,hvv,hlv]
 refine zaD (fun hlt=>?_) (fun hge=>?_)
 ·obtain ⟨r,hr,hr'⟩:=za4 (l:=l) (i:=i) (by omega)
  have hwi:IntKind.i64.wrap ((i:Int)+1)=((i+1:Nat):Int):=by unfold maxLen at hle;rw [wrap_i64 (by omega) (by omega)];omega
  simp -implicitDefEqProofs only [syms,symx,seval,c18,hvv]
  repeat' ((first|((with_reducible  apply zaD ) <;> intro _)|with_reducible_and_instances refine zBI (hl.mono z.inc) ds48 sz57 (by omega) hr (fun p hp=>?_)|with_reducible_and_instances refine zxQ hp zh9 (fun qq hq=>?_)|with_reducible_and_instances refine zcJ hq ag9 ?_|with_reducible_and_instances refine zBO hp zlu (fun qq hq=>?_)|with_reducible_and_instances refine lda hq ag42 sz42 ?_|((with_reducible_and_instances refine zhI _ _ _ (fun hla h' x=>?_) (fun hla h' x=>?_)) <;> ((skip);replace z:=z.overW x (by (try simp only [lsz]);omega);rw [zaa h']))|((with_reducible_and_instances apply zap);(· rfl))) <;> simp -implicitDefEqProofs only [syms,symx,seval,c18,hvv])
  all_goals first
   |exact h2k _ (z.upW _ _ (by omega))
   |(rw [hwi]
     (rw [hI1];with_reducible refine zae (m:=_) ?_ ⟨i+1,_,rfl,z,⟨rfl,by omega,zce (i:=i) (P:=fun c:ActD=>c.s.size≤300∧c.a.light=true) hr' hall ⟨by omega,hla⟩⟩,junk (by kernel_rfl)⟩;omega))
 ·rw [List.take_of_length_le (by omega)] at hall
  simp -implicitDefEqProofs only [syms,symx,seval,c18,hvv,hlv]
  refine zaD (fun hle=>?_) (fun hgt=>?_)
  ·simp -implicitDefEqProofs only [syms,symx,seval,c18]
   exact h1k (by omega) hall _ (z.upW _ _ (by omega))
  ·simp -implicitDefEqProofs only [syms,symx,seval,c18]
   exact h2k _ (z.upW _ _ (by omega))
theorem act0 (c:ActD):c.cells[0]? = some (.int .i64 c.k):=rfl
theorem act1 (c:ActD):c.cells[1]? = some (.string c.s):=rfl
theorem act2 (c:ActD):cut c.cells 2 11=some c.a.cells:=rfl
theorem zs6 (c:ActD):(Value.agg ⟨c.cells⟩).cells.toList=c.cells:=rfl
theorem ztf (d:PolicyD) (q:Int) (c:ActD) (facts:ByteArray→List AtomD) (vers us:ByteArray→Nat) (h hc:Heap) (z:Ext h hc) (N b k:Nat) (S0:Nat) (E:List Nat) (hN:N=h.size) (X:List Nat) (sps:SpX X N b hc S0 E d q facts vers us) (inv:InvS d k facts vers us) (hnd:d.principals.Nodup) (hpl:d.principals.length≤16) (hsp:SpaceAt 1 hc) (ha:c.a.light=true) (hk:k≤700) (hb:b < 50000) (K:Value→Heap→Prop)
 (hK:∀ h' E2 us2,Ext h h'→Frs E hc h'→(∀ B∈E2,B∈E∨hc.size≤B)→SpX X N (b+4) h' S0 E2 d q (zf5 facts c.s (locX d q c (facts c.s))) (zgc vers c.s (locX d q c (facts c.s))) us2→InvS d (k+1) (zf5 facts c.s (locX d q c (facts c.s))) (zgc vers c.s (locX d q c (facts c.s))) us2→K undef h'):Ok Tryz.prog tab ov 24 [.pointer (some ⟨S0,0,none⟩),.agg ⟨c.cells⟩] hc K:=by
 rw [zaa hc]
 refine Ok.into rfl zwt (zaB N24) rfl (m:=18) rfl ?_
 simp -implicitDefEqProofs only [syms,symx,seval,c24,zs6,act0,valN]
 refine zyJ c.k 2 _ _ (by decide) ?_
 have fr0:Frs [] hc (hc.lay [.row c.cells 57 false] hc.low):=Frs.lay _ _ _ _
 simp -implicitDefEqProofs only [syms,symx,seval,c24]
 refine zaD (fun hp=>?_) (fun hp=>?_)
 ·have hx:locX d q c (facts c.s)=locA d q c.s c.a (facts c.s):=if_pos ((zo2 c.k).1 hp)
  simp -implicitDefEqProofs only [syms,symx,seval,c24,act1,valS,↓act2,zaH,zar]
  refine zqv d q c.s c.a facts vers us h _ (z.upW _ _ (by omega)) N b k S0 E hN X (sps.frs fr0) inv hnd hpl (hsp.lay _ _) ha hk hb _ (fun h' E2 us2 z2 f2 hE2 sp2 inv2=>?_)
  rw [zaa h']
  simp -implicitDefEqProofs only [syms,symx,seval,c24]
  rw [hx] at hK
  exact hK _ E2 us2 (z2.upW _ _ (by omega)) (((fr0.mono (D':=E) (fun _ h=>nomatch h)).trans f2 (fun B hB=>.inl hB)) |>.trans (Frs.lay _ _ _ []) (fun _ h=>nomatch h)) (fun B hB=>(hE2 B hB).imp id (fun e=>by rw [zad] at e;simp at e;omega)) (sp2.lay _ _) inv2
 ·have hx:locX d q c (facts c.s)=locR d c.s c.a (facts c.s):=if_neg (fun e=>hp ((zo2 c.k).2 e))
  simp -implicitDefEqProofs only [syms,symx,seval,c24,act1,valS,↓act2,zaH,zar]
  refine zoW d q c.s c.a facts vers us h _ (z.upW _ _ (by omega)) N b k S0 E hN X (sps.frs fr0) inv hnd hpl (hsp.lay _ _) ha hk hb _ (fun h' E2 us2 z2 f2 hE2 sp2 inv2=>?_)
  rw [zaa h']
  simp -implicitDefEqProofs only [syms,symx,seval,c24]
  rw [hx] at hK
  exact hK _ E2 us2 (z2.upW _ _ (by omega)) (((fr0.mono (D':=E) (fun _ h=>nomatch h)).trans f2 (fun B hB=>.inl hB)) |>.trans (Frs.lay _ _ _ []) (fun _ h=>nomatch h)) (fun B hB=>(hE2 B hB).imp id (fun e=>by rw [zad] at e;simp at e;omega)) (sp2.lay _ _) inv2
end Go.Proofs.YtdplfgoifjjniaaGreatDoor
