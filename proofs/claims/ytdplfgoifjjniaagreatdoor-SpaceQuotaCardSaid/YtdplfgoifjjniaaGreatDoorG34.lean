/- Walks: bindings: may they be Written out by fill2.py. No condition. -/
import Derived.Test.YtdplfgoifjjniaaGreatDoorG32
import Derived.Test.YtdplfgoifjjniaaGreatDoorGText
set_option linter.unusedSimpArgs false
set_option linter.unusedVariables false
set_option maxRecDepth 100000
set_option maxHeartbeats 0
namespace Go.Proofs.YtdplfgoifjjniaaGreatDoor
open Go.Am
theorem zfy {I:Nat→Env→Heap→Prop} {m:Nat} {Q:Ex→Env→Heap→Prop} {x:Ex} {e:Env} {h0 h1:Heap} {bs:List Blk} {w:Nat} (z:Ext h0 (h1.lay bs w)) (hk:∀ H,Ext h0 H→(∀ A b,Holds h1 A b→Holds H A b)→Inc h1 H→zqo I m Q x e (H.lay [] H.low)):zqo I m Q x e (h1.lay bs w):=by
 have:=hk _ z (fun A b q=>q.on bs w) (Inc.lay _ _ _)
 rwa [← zaa] at this
theorem zyk (a:AtomD) (k:Nat) (hk:k < 4):cut a.cells (3+k*2) 2=some (a.arg k).cells:=by
 have:k=0∨k=1∨k=2∨k=3:=by omega
 rcases this with rfl|rfl|rfl|rfl <;> rfl
noncomputable def N128:=zax Tryz.f128
noncomputable def x128:=PLift.up (by have c:=zag N128 Tryz.f128;simp only [nEqs,Tryz.f128,seval] at c;exact nd c <| nd @al39 <| nd @bs23 <| nd @zsf <| nd @zif <| nd @zsg <| nd @zvj <| nd @ld39 <| nd @ld42 <| nd @ld9 <| nd @zvm <| @zDC)
theorem c128:type_of% x128.down:=x128.down
noncomputable def N95:=zax Tryz.f95
noncomputable def x95:=PLift.up (by have c:=zag N95 Tryz.f95;simp only [nEqs,Tryz.f95,seval] at c;exact nd c <| nd @ld42 <| @fi95)
theorem c95:type_of% x95.down:=x95.down
noncomputable def N152:=zax Tryz.f152
noncomputable def x152:=PLift.up (by have c:=zag N152 Tryz.f152;simp only [nEqs,Tryz.f152,seval] at c;exact nd c <| nd @ix52 <| nd @ld42 <| nd @zDP <| @zAt)
theorem c152:type_of% x152.down:=x152.down
noncomputable def N168:=zax Tryz.f168
noncomputable def x168:=PLift.up (by have c:=zag N168 Tryz.f168;simp only [nEqs,Tryz.f168,seval] at c;exact nd c <| nd @ix52 <| nd @ld42 <| nd @zDV <| @zD6)
theorem c168:type_of% x168.down:=x168.down
noncomputable def N164:=zax Tryz.f164
noncomputable def x164:=PLift.up (by have c:=zag N164 Tryz.f164;simp only [nEqs,Tryz.f164,seval] at c;exact nd c <| nd @zDU <| @zD5)
theorem c164:type_of% x164.down:=x164.down
noncomputable def N153:=zax Tryz.f153
noncomputable def x153:=PLift.up (by have c:=zag N153 Tryz.f153;simp only [nEqs,Tryz.f153,seval] at c;exact nd c <| nd @ix52 <| nd @ld42 <| nd @zDQ <| @zD4)
theorem c153:type_of% x153.down:=x153.down
noncomputable def N142:=zax Tryz.f142
noncomputable def x142:=PLift.up (by have c:=zag N142 Tryz.f142;simp only [nEqs,Tryz.f142,seval] at c;exact nd c <| nd @zDM <| @zD3)
theorem c142:type_of% x142.down:=x142.down
noncomputable def N124:=zax Tryz.f124
noncomputable def x124:=PLift.up (by have c:=zag N124 Tryz.f124;simp only [nEqs,Tryz.f124,seval] at c;exact nd c <| nd @ln52 <| nd @zDz <| @zD1)
theorem c124:type_of% x124.down:=x124.down
noncomputable def N41:=zax Tryz.f41
noncomputable def x41:=PLift.up (by have c:=zag N41 Tryz.f41;simp only [nEqs,Tryz.f41,seval] at c;exact nd c <| nd @bs52 <| @fi41)
theorem c41:type_of% x41.down:=x41.down
noncomputable def N125:=zax Tryz.f125
noncomputable def x125:=PLift.up (by have c:=zag N125 Tryz.f125;simp only [nEqs,Tryz.f125,seval] at c;exact nd c <| nd @ix52 <| nd @ld42 <| nd @ln52 <| @zDA)
theorem c125:type_of% x125.down:=x125.down
noncomputable def N126:=zax Tryz.f126
noncomputable def x126:=PLift.up (by have c:=zag N126 Tryz.f126;simp only [nEqs,Tryz.f126,seval] at c;exact nd c <| nd @ld42 <| @zDB)
theorem c126:type_of% x126.down:=x126.down
noncomputable def N93:=zax Tryz.f93
noncomputable def x93:=PLift.up (by have c:=zag N93 Tryz.f93;simp only [nEqs,Tryz.f93,seval] at c;exact nd c <| @fi93)
theorem c93:type_of% x93.down:=x93.down
noncomputable def N92:=zax Tryz.f92
noncomputable def x92:=PLift.up (by have c:=zag N92 Tryz.f92;simp only [nEqs,Tryz.f92,seval] at c;exact nd c <| nd @ix52 <| nd @ld42 <| nd @ln52 <| @fi92)
theorem c92:type_of% x92.down:=x92.down
noncomputable def N61:=zax Tryz.f61
noncomputable def x61:=PLift.up (by have c:=zag N61 Tryz.f61;simp only [nEqs,Tryz.f61,seval] at c;exact nd c <| @fi61)
theorem c61:type_of% x61.down:=x61.down
noncomputable def N94:=zax Tryz.f94
noncomputable def x94:=PLift.up (by have c:=zag N94 Tryz.f94;simp only [nEqs,Tryz.f94,seval] at c;exact nd c <| nd @ix52 <| nd @ld42 <| nd @ln52 <| @fi94)
theorem c94:type_of% x94.down:=x94.down
noncomputable def N62:=zax Tryz.f62
noncomputable def x62:=PLift.up (by have c:=zag N62 Tryz.f62;simp only [nEqs,Tryz.f62,seval] at c;exact nd c <| nd @ld42 <| @fi62)
theorem c62:type_of% x62.down:=x62.down
theorem zzs:zed tab 23 23=true:=by kernel_rfl
theorem zrQ (a:AtomD):a.cells[0]? = some (.string a.says):=rfl
theorem zrR (a:AtomD):a.cells[1]? = some (.string a.pred):=rfl
theorem zs6 (a:AtomD) (ha:a.light=true) (h:Heap) (K:Value→Heap→Prop)
 (hk:∀ h',Ext h h'→K (.string ⟨(zaP a).toArray⟩) h'):Ok Tryz.prog tab ov 128 [a.val] h K:=by
 rw [zaa h]
 have z:=Ext.refl h
 obtain ⟨hs1,hs2⟩:=zqj ha
 refine Ok.into rfl ztY (zaw N128) rfl (m:=37) rfl ?_
 simp -implicitDefEqProofs only [syms,symx,seval,c128,zas,zrQ,zrR,↓zaF,zaA,zal]
 refine zeX ?_ (fun S1 hS1 hz1=>?_)
 ·show a.says.size+6≤_
  omega
 simp -implicitDefEqProofs only [syms,symx,seval,c128,zrQ,zrR,↓zaF,zaA,zal]
 refine zeX ?_ (fun S hS hz2=>?_)
 ·rw [hz1]
  show a.says.size+6+_≤_
  omega
 have hSl:S.data.toList=a.says.data.toList++ztu++a.pred.data.toList:=by rw [hS,hS1,zlJ,zlJ];rfl
 have hSz:S.size≤700:=by
  rw [hz2,hz1]
  show a.says.size+6+_≤_
  omega
 clear hS hS1 hz1 hz2
 simp -implicitDefEqProofs only [syms,symx,seval,c128,↓zaF,zaA,zal]
 refine zix a _ _ (fun v H0 x hv=>?_)
 (replace z:=z.overW x (by omega);rw [zaa H0])
 have hz0:=z.size
 have hva:=za3 v
 simp -implicitDefEqProofs only [syms,symx,seval,c128,hva]
 repeat' ((first|((with_reducible apply zeR) <;> intro _)|with_reducible_and_instances refine zsB hv zh8 ?_) <;> simp -implicitDefEqProofs only [syms,symx,seval,c128,hva])
 ·have hS2:S=⟨(zaP a).toArray⟩:=zzW (by rw [hSl,zur (by omega)])
  rw [hS2]
  exact hk _ (z.upW _ _ (by omega))
 obtain ⟨I1,hI1⟩:∃ I:Nat→Env→Heap→Prop,I=(fun n e h'=>∃ (i:Nat) (w:Value) (A:Nat) (h1:Heap),h'=h1.lay [] h1.low∧Ext h h1∧(n=a.args.length - i∧i≤a.args.length∧Ow Rep.str H0 h1 9 A w ((a.args.take i).map (·.s))∧Inc H0 h1)∧∃ J:Nat→Value,e=(jr J 0 3 (.string S::J 4::w::jr J 6 14 (v::.int .i64 a.args.length::.int .i64 i::jr J 23 15 ([]))))):=⟨_,rfl⟩
 refine zaE I1 _ (by rw [hI1];exact ⟨0,.slice none 0 0,H0.size,_,rfl,z,⟨rfl,by omega,Ow.nil (Nat.le_refl _),Inc.refl _⟩,junk (by kernel_rfl)⟩) ?_
 intro n e h' hin
 rw [hI1] at hin
 obtain ⟨i,w,A,h1',rfl,z,hinv,J,rfl⟩:=hin
 obtain ⟨rfl,hi,ho,i1⟩:=hinv
 have hal:a.args.length≤4:=by rw [zbt];unfold AtomD.cnt;omega
 have hw:=zcl i (by omega)
 have hz:=z.size
 simp -implicitDefEqProofs only [syms,symx,seval,c128]
 refine zaD (fun hlt=>?_) (fun hlt=>?_)
 rotate_left
 ·simp -implicitDefEqProofs only [syms,symx,seval,c128]
  rw [List.take_of_length_le (by omega)] at ho
  have hJ:=zqf ha
  have hnm:(a.args.map (·.s)).map (·.data.toList)=zcd a:=by rw [List.map_map];rfl
  have hva2:=za3 w
  refine zeX ?_ (fun S3 hS3 hz3=>?_)
  ·show S.size+1≤_
   omega
  have hz3':S3.size≤701:=by
   rw [hz3]
   show S.size+1≤_
   omega
  have hS3l:S3.data.toList=S.data.toList++[40]:=by rw [hS3,zlJ]
  simp -implicitDefEqProofs only [syms,symx,seval,c128,hva2]
  refine Ok.over (g:=zoc) rfl (zyR ((ho.sl (by decide)).lay _ _) (fun e=>by have:=congrArg List.length e;rw [List.length_map,List.length_nil] at this;omega) (by rw [List.length_map];omega) (by rw [hnm];exact Nat.le_trans hJ (by decide))) ?_
  rw [hnm]
  obtain ⟨J2,hJ2⟩:∃ J2:ByteArray,J2=⟨(Lib.join (zcd a) (ByteArray.mk #[44,32]).data.toList).toArray⟩:=⟨_,rfl⟩
  rw [← hJ2]
  have hJl:J2.data.toList=Lib.join (zcd a) commaB:=by rw [hJ2];rfl
  have hJz:J2.size≤1300:=by rw [← bsz2,hJl];exact hJ
  simp -implicitDefEqProofs only [syms,symx,seval,c128]
  refine zeX ?_ (fun S4 hS4 hz4=>?_)
  ·omega
  simp -implicitDefEqProofs only [syms,symx,seval,c128]
  refine zeX ?_ (fun S5 hS5 hz5=>?_)
  ·rw [hz4]
   show S3.size+J2.size+1≤_
   omega
  repeat' (simp -implicitDefEqProofs only [syms,symx,seval,c128])
  have hS6:S5=⟨(zaP a).toArray⟩:=zzW (by rw [hS5,zlJ,hS4,zlJ,hS3l,hSl,hJl,zus (by omega)])
  rw [hS6]
  exact hk _ (z.upW _ _ (by omega))
 obtain ⟨r,hr,hr'⟩:=zbs (l:=a.args) (i:=i) hlt
 simp -implicitDefEqProofs only [syms,symx,seval,c128]
 repeat' ((first|with_reducible_and_instances refine zmm (hv.mono i1) zh8 sz39 (by omega) hr (fun p hp=>?_)|with_reducible_and_instances refine ldt hp ag39 sz39 ?_) <;> simp -implicitDefEqProofs only [syms,symx,seval,c128,zbA,zaS,List.all_cons,List.all_nil,Am.one,Bool.and_true,Bool.true_and,Bool.and_self,List.set_cons_zero,List.set_cons_succ,st4,st3,st9,st39,st42,TermD.val,TermD.cells])
 simp -implicitDefEqProofs only [syms,symx,seval,c128,zcU,zzs]
 obtain ⟨hs1',hsr1⟩:=zty (A:=A) (B:=h1'.size+1) (r:=Rep.str) (c:=1) (y:=r.s) (by decide) (show (h1'.lay [Blk.row [Value.bool r.v,Value.string r.s] 39 false,Blk.row [Value.string r.s] 9 false] (min h1'.low (h1'.size+0))).get (h1'.size+1)=some (.row [Value.string r.s] 9 false) by rw [zbd];rfl) rfl
 have hfr:=ho.fresh
 have hln:((a.args.take i).map (·.s)).length≤4:=by rw [List.length_map,List.length_take];omega
 refine zrD (r:=Rep.str) ds23 zeg rfl (by decide) i1.size ho hs1' hsr1 (by omega) (by omega) (fun w' h2 A' o2 c2 hA2=>?_)
 replace z:=(z.upW _ _ (by omega)).step c2 (by omega)
 have i2:=zyM (i1.trans (Inc.lay _ _ _)) c2 hfr
 have htk:(a.args.take (i+1)).map (·.s)=(a.args.take i).map (·.s)++[r.s]:=by rw [List.take_add_one,hr',List.map_append];rfl
 rw [← htk] at o2
 rw [zaa h2]
 have hva2:∀ (h:Heap) (K:Value→Heap→Prop),valE (some w') h K=K w' h:=fun _ _=>rfl
 repeat' (simp -implicitDefEqProofs only [syms,symx,seval,c128,hva2])
 rw [hw]
 (rw [hI1];with_reducible refine zae (m:=_) ?_ ⟨i+1,w',A',_,rfl,z,⟨rfl,by omega,o2,i2⟩,junk (by kernel_rfl)⟩;omega)
 trace_state
theorem zhu (a b:AtomD) (ha:a.light=true) (hb:b.light=true) (h:Heap) (K:Value→Heap→Prop)
 (hk:∀ h',Ext h h'→K (.int .i64 (cmpD a b)) h'):Ok Tryz.prog tab ov 95 [a.val,b.val] h K:=by
 rw [zaa h]
 have z:=Ext.refl h
 refine Ok.into rfl zwY (zaw N95) rfl (m:=8) rfl ?_
 repeat' (simp -implicitDefEqProofs only [syms,symx,seval,c95,zas])
 refine (zb9 (by simp only [c95])) (z.upW _ _ (by omega)) ?_
 simp -implicitDefEqProofs only [syms,symx,seval,c95,↓zaF,zaA,zal]
 refine zs6 a ha _ _ (fun h' x=>?_)
 have q1:=Holds.top (i:=1) x rfl
 (((with_reducible refine zah ?_ ?_ ?_);(· exact (by (simp only [lsz]);have:=z.size;omega));(· exact x));replace z:=z.overW x (by omega);rw [zaa h'])
 repeat' (simp -implicitDefEqProofs only [syms,symx,seval,c95,q1.lay,↓zaF,zaA,zal])
 refine zs6 b hb _ _ (fun h' x=>?_)
 (((with_reducible refine zah ?_ ?_ ?_);(· exact (by (simp only [lsz]);have:=z.size;omega));(· exact x));replace z:=z.overW x (by omega);rw [zaa h'])
 repeat' (simp -implicitDefEqProofs only [syms,symx,seval,c95])
 refine Ok.over (g:=zgi) rfl rfl ?_
 refine zah (by have:=z.size;rw [zad];omega) (by simpa only [zan,zad,List.append_nil,List.length_nil,Nat.add_zero] using Ext.refl (h'.lay [] h'.size)) ?_
 repeat' (first|simp -implicitDefEqProofs only [syms,symx,seval,c95]|((with_reducible refine ⟨z.grw.lay _ _,?_⟩);(intro _ h' zz x _);(simp only [zan,List.append_nil] at x);(replace z:=zz);(clear zz);rw [zaa h']))
 exact hk _ (z.upW _ _ (by omega))
end Go.Proofs.YtdplfgoifjjniaaGreatDoor
