/- The code of some functions, node by node, for simp. Written by a program (mkcode.py). No condition. -/
import Derived.Test.YtdplfgoifjjniaaGreatDoorG27
import Derived.Test.YtdplfgoifjjniaaGreatDoorG25
import Derived.KernelRfl
import Derived.Test.YtdplfgoifjjniaaGreatDoorG38
import Derived.Test.YtdplfgoifjjniaaGreatDoorG28
namespace Go.Proofs.YtdplfgoifjjniaaGreatDoor
open Go.Am
set_option linter.unusedVariables false
set_option linter.unusedSimpArgs false
set_option maxRecDepth 100000
set_option maxHeartbeats 0
noncomputable def N52:=zaz Tryz.f52
noncomputable def x52:=PLift.up (by have c:=zah N52 Tryz.f52;simp only [zan,Tryz.f52,Option.getD_some,zaj,opsF,opsX,zag,zaA,dstL,zak,List.append_eq,List.cons_append,List.nil_append,seval] at c;exact nd c <| nd @zAA <| nd @zly <| nd @zki <| nd @ix23 <| nd @ld23 <| nd @ld9 <| nd @ln23 <| @fi52)
theorem c52:type_of% x52.down:=x52.down
noncomputable def N53:=zaz Tryz.f53
noncomputable def x53:=PLift.up (by have c:=zah N53 Tryz.f53;simp only [zan,Tryz.f53,Option.getD_some,zaj,opsF,opsX,zag,zaA,dstL,zak,List.append_eq,List.cons_append,List.nil_append,seval] at c;exact nd c <| nd @zAA <| nd @al67 <| nd @zly <| nd @zpq <| nd @zpV <| nd @zzK <| nd @ix24 <| nd @ld24 <| nd @ld3 <| nd @ld67 <| nd @ld9 <| nd @ln24 <| @fi53)
theorem c53:type_of% x53.down:=x53.down
noncomputable def N83:=zaz Tryz.f83
noncomputable def x83:=PLift.up (by have c:=zah N83 Tryz.f83;simp only [zan,Tryz.f83,Option.getD_some,zaj,opsF,opsX,zag,zaA,dstL,zak,List.append_eq,List.cons_append,List.nil_append,seval] at c;exact nd c <| nd @zly <| nd @zpe <| nd @ztV <| nd @ix23 <| nd @ld23 <| nd @ld29 <| nd @ld9 <| nd @ln23 <| @fi83)
theorem c83:type_of% x83.down:=x83.down
noncomputable def N54:=zaz Tryz.f54
noncomputable def x54:=PLift.up (by have c:=zah N54 Tryz.f54;simp only [zan,Tryz.f54,Option.getD_some,zaj,opsF,opsX,zag,zaA,dstL,zak,List.append_eq,List.cons_append,List.nil_append,seval] at c;exact nd c <| nd @zAA <| nd @al69 <| nd @zly <| nd @zzP <| nd @zpe <| nd @ix25 <| nd @ld25 <| nd @ld29 <| nd @ld69 <| nd @ld9 <| nd @ln25 <| @fi54)
theorem c54:type_of% x54.down:=x54.down
noncomputable def N82:=zaz Tryz.f82
noncomputable def x82:=PLift.up (by have c:=zah N82 Tryz.f82;simp only [zan,Tryz.f82,Option.getD_some,zaj,opsF,opsX,zag,zaA,dstL,zak,List.append_eq,List.cons_append,List.nil_append,seval] at c;exact nd c <| nd @ld29 <| nd @ld69 <| @fi82)
theorem c82:type_of% x82.down:=x82.down
noncomputable def N55:=zaz Tryz.f55
noncomputable def x55:=PLift.up (by have c:=zah N55 Tryz.f55;simp only [zan,Tryz.f55,Option.getD_some,zaj,opsF,opsX,zag,zaA,dstL,zak,List.append_eq,List.cons_append,List.nil_append,seval] at c;exact nd c <| nd @zmV <| nd @zCO <| nd @zuh <| nd @zu0 <| nd @ld26 <| nd @ld27 <| nd @ld3 <| nd @ln26 <| nd @ln27 <| @fi55)
theorem c55:type_of% x55.down:=x55.down
noncomputable def N85:=zaz Tryz.f85
noncomputable def x85:=PLift.up (by have c:=zah N85 Tryz.f85;simp only [zan,Tryz.f85,Option.getD_some,zaj,opsF,opsX,zag,zaA,dstL,zak,List.append_eq,List.cons_append,List.nil_append,seval] at c;exact nd c <| nd @zly <| nd @ld52 <| nd @ln52 <| @fi85)
theorem c85:type_of% x85.down:=x85.down
noncomputable def N113:=zaz Tryz.f113
noncomputable def x113:=PLift.up (by have c:=zah N113 Tryz.f113;simp only [zan,Tryz.f113,Option.getD_some,zaj,opsF,opsX,zag,zaA,dstL,zak,List.append_eq,List.cons_append,List.nil_append,seval] at c;exact nd c <| nd @ld29 <| nd @ld42 <| @zGz)
theorem c113:type_of% x113.down:=x113.down
noncomputable def N114:=zaz Tryz.f114
noncomputable def x114:=PLift.up (by have c:=zah N114 Tryz.f114;simp only [zan,Tryz.f114,Option.getD_some,zaj,opsF,opsX,zag,zaA,dstL,zak,List.append_eq,List.cons_append,List.nil_append,seval] at c;exact nd c <| nd @al42 <| nd @ix52 <| nd @ld29 <| nd @ld42 <| nd @ld52 <| nd @ln52 <| @zEb)
theorem c114:type_of% x114.down:=x114.down
noncomputable def N87:=zaz Tryz.f87
noncomputable def x87:=PLift.up (by have c:=zah N87 Tryz.f87;simp only [zan,Tryz.f87,Option.getD_some,zaj,opsF,opsX,zag,zaA,dstL,zak,List.append_eq,List.cons_append,List.nil_append,seval] at c;exact nd c <| nd @al23 <| nd @al42 <| nd @zpo <| nd @zpj <| nd @ix52 <| nd @ld23 <| nd @ld42 <| nd @ld52 <| nd @ln52 <| @fi87)
theorem c87:type_of% x87.down:=x87.down
noncomputable def N117:=zaz Tryz.f117
noncomputable def x117:=PLift.up (by have c:=zah N117 Tryz.f117;simp only [zan,Tryz.f117,Option.getD_some,zaj,opsF,opsX,zag,zaA,dstL,zak,List.append_eq,List.cons_append,List.nil_append,seval] at c;exact nd c <| nd @ld23 <| @zDl)
theorem c117:type_of% x117.down:=x117.down
noncomputable def N56:=zaz Tryz.f56
noncomputable def x56:=PLift.up (by have c:=zah N56 Tryz.f56;simp only [zan,Tryz.f56,Option.getD_some,zaj,opsF,opsX,zag,zaA,dstL,zak,List.append_eq,List.cons_append,List.nil_append,seval] at c;exact nd c <| nd @al71 <| nd @al73 <| nd @zly <| nd @zuh <| nd @zu0 <| nd @zgz <| nd @zta <| nd @zpW <| nd @ix26 <| nd @ix27 <| nd @ld26 <| nd @ld27 <| nd @ld29 <| nd @ld71 <| nd @ld73 <| nd @ld9 <| nd @ln26 <| nd @ln27 <| @fi56)
theorem c56:type_of% x56.down:=x56.down
noncomputable def N84:=zaz Tryz.f84
noncomputable def x84:=PLift.up (by have c:=zah N84 Tryz.f84;simp only [zan,Tryz.f84,Option.getD_some,zaj,opsF,opsX,zag,zaA,dstL,zak,List.append_eq,List.cons_append,List.nil_append,seval] at c;exact nd c <| nd @zpo <| nd @zpj <| nd @ld29 <| nd @ld42 <| nd @ld52 <| @fi84)
theorem c84:type_of% x84.down:=x84.down
noncomputable def N86:=zaz Tryz.f86
noncomputable def x86:=PLift.up (by have c:=zah N86 Tryz.f86;simp only [zan,Tryz.f86,Option.getD_some,zaj,opsF,opsX,zag,zaA,dstL,zak,List.append_eq,List.cons_append,List.nil_append,seval] at c;exact nd c <| nd @ld71 <| @fi86)
theorem c86:type_of% x86.down:=x86.down
noncomputable def N88:=zaz Tryz.f88
noncomputable def x88:=PLift.up (by have c:=zah N88 Tryz.f88;simp only [zan,Tryz.f88,Option.getD_some,zaj,opsF,opsX,zag,zaA,dstL,zak,List.append_eq,List.cons_append,List.nil_append,seval] at c;exact nd c <| nd @zpW <| nd @zum <| nd @ld29 <| nd @ld42 <| nd @ld52 <| @fi88)
theorem c88:type_of% x88.down:=x88.down
noncomputable def N29:=zaz Tryz.f29
noncomputable def x29:=PLift.up (by have c:=zah N29 Tryz.f29;simp only [zan,Tryz.f29,Option.getD_some,zaj,opsF,opsX,zag,zaA,dstL,zak,List.append_eq,List.cons_append,List.nil_append,seval] at c;exact nd c <| nd @bs98 <| nd @ix98 <| nd @ld29 <| nd @ld62 <| nd @ln98 <| @fi29)
theorem c29:type_of% x29.down:=x29.down
noncomputable def N116:=zaz Tryz.f116
noncomputable def x116:=PLift.up (by have c:=zah N116 Tryz.f116;simp only [zan,Tryz.f116,Option.getD_some,zaj,opsF,opsX,zag,zaA,dstL,zak,List.append_eq,List.cons_append,List.nil_append,seval] at c;exact nd c <| @zDZ)
theorem c116:type_of% x116.down:=x116.down
noncomputable def N138:=zaz Tryz.f138
noncomputable def x138:=PLift.up (by have c:=zah N138 Tryz.f138;simp only [zan,Tryz.f138,Option.getD_some,zaj,opsF,opsX,zag,zaA,dstL,zak,List.append_eq,List.cons_append,List.nil_append,seval] at c;exact nd c <| nd @ix23 <| nd @ld9 <| nd @ln23 <| @zD5)
theorem c138:type_of% x138.down:=x138.down
end Go.Proofs.YtdplfgoifjjniaaGreatDoor
namespace Go.Proofs.YtdplfgoifjjniaaGreatDoor
open Go.Am
set_option linter.unusedSimpArgs false
set_option linter.unusedVariables false
set_option maxRecDepth 100000
set_option maxHeartbeats 0
theorem zke:tab.desc 125=some (.map 9 126):=by kernel_rfl
theorem ds9q:tab.desc 9=some .string:=by kernel_rfl
theorem ztO:tab.zero 126=some (.agg ⟨[]⟩):=by kernel_rfl
theorem zoN:zdw tab 126 []=some (.agg ⟨[]⟩):=by kernel_rfl
theorem zgZ {T:Tab} {t kt et:TypeId} {A w:Nat} {met:List ByteArray} {a:ByteArray} {h1:Heap} {bs:List Blk} {K:Value→Heap→Prop} (m:MapK Value.string h1 A met) (hd:T.desc t=some (.map kt et)) (hs:T.desc kt=some .string) (hz:T.zero et=some (.agg ⟨[]⟩)) (hK:K (.tuple #[.agg ⟨[]⟩,.bool (hasP met a)]) (h1.lay bs w)):valE (zdv T t (.map (some A)) (.string a) true (h1.lay bs w)) (h1.lay bs w) K :=
 zqq (kv:=Value.string) m (fun _=>rfl) hd (zjX hs) hz (fun hm=>by rw [hasP_iff.2 hm] at hK;exact hK) (fun hm=>by rw [Bool.eq_false_iff.2 (mt hasP_iff.1 hm)] at hK;exact hK)
theorem zk5 {T:Tab} {t kt et:TypeId} {A w:Nat} {met:List ByteArray} {a:ByteArray} {h1:Heap} {bs:List Blk} {K:Value→Heap→Prop} (m:MapK Value.string h1 A met) (hd:T.desc t=some (.map kt et)) (hs:T.desc kt=some .string) (hK:∀ h',MapK Value.string h' A (met++[a])→Chg A (h1.lay bs w) h'→K undef h'):memE (zbC T t (.map (some A)) (.string a) (.agg ⟨[]⟩) (h1.lay bs w)) K :=
 zwS (kv:=Value.string) m (fun _=>rfl) (fun x=>zfY x) hd (zjX hs) (fun h' m2 c=>hK h' (m2.same (fun b=>by rw [List.mem_cons,List.mem_append,List.mem_singleton];exact Or.comm)) c)
theorem zhi (h:Heap) (l:List Blk) (w i o:Nat) (v:Value) (hi:i < l.length):za8 tab 126 (.pointer (some ⟨h.size+i,o,none⟩)) v (h.lay l w)=if v.cells.size=0 then zee l[i]? i o v.cells.toList h l w else none:=zfI (by kernel_rfl) h l w i o v hi
theorem zwl (s:ByteArray) (h:Heap) (hsp:SpaceAt 1 h) (K:Value→Heap→Prop) (hk:∀ h',Ext h h'→K (.bool (zeo s)) h'):Ok Tryz.prog tab ov 79 [.string s] h K :=
 zln s h hsp K (fun g h' x=>by rw [prinB_iff.2 g] at hk;exact hk h' x) (fun g h' x=>by rw [zmc g] at hk;exact hk h' x)
theorem zzv (s:ByteArray) (h:Heap) (hsp:SpaceAt 1 h) (K:Value→Heap→Prop) (hk:∀ h',Ext h h'→K (.bool (zeo s)) h'):Ok Tryz.prog tab ov 80 [.string s] h K :=
 zo6 s h hsp K (fun g h' x=>by rw [prinB_iff.2 g] at hk;exact hk h' x) (fun g h' x=>by rw [zmc g] at hk;exact hk h' x)
theorem zjr {l:List ByteArray} (h:l.length < 1∨16 < l.length):ziY l=4:=if_pos h
theorem ztb (l:List ByteArray) (p0 p1 p2 p5 p6:Value) (q b:Int) (h:Heap) (hsp:SpaceAt 1 h) (hl:Sl Rep.str h p0 l) (K:Value→Heap→Prop) (hk:∀ h',Ext h h'→K (.int .i64 (ziY l)) h'):Ok Tryz.prog tab ov 52 [zbO p0 p1 p2 p5 p6 q b] h K:=by
 rw [zaa h]
 have z:=Ext.refl h
 have hle:=hl.le
 have hva:=zaQ p0
 have hvs:∀ (s:ByteArray) (h:Heap) (K:Value→Heap→Prop),valE (some (.string s)) h K=K (.string s) h:=fun _ _ _=>rfl
 have hlv:=fun (hh:Heap)=>hl.lenA ds23 hh
 refine Ok.into rfl zxl (zaB N52) rfl (m:=47) rfl ?_
 simp -implicitDefEqProofs only [syms,symx,seval,c52,zax,pol0,hva,hlv]
 refine zaE (fun h1=>?_) (fun h1=>?_)
 ·rw [zjr (.inl (by omega))] at hk
  simp -implicitDefEqProofs only [syms,symx,seval,c52]
  exact hk _ (z.upW _ _ (by omega))
 simp -implicitDefEqProofs only [syms,symx,seval,c52]
 refine zaE (fun h2=>?_) (fun h2=>?_)
 ·rw [zjr (.inr (by omega))] at hk
  simp -implicitDefEqProofs only [syms,symx,seval,c52]
  exact hk _ (z.upW _ _ (by omega))
 have hpe:ziY l=zbX (fun pre w=>zbh [notE (!zeo w) 3,notE (hasP pre w) 5]) [] l:=if_neg (by omega)
 rw [hpe] at hk
 obtain ⟨F,hF⟩:∃ F:List ByteArray→ByteArray→Int,F=fun pre w=>zbh [notE (!zeo w) 3,notE (hasP pre w) 5]:=⟨_,rfl⟩
 rw [← hF] at hk
 simp -implicitDefEqProofs only [syms,symx,seval,c52,ze3,zax,pol0,hva,hlv]
 refine zd8 (fun h' x hq=>?_)
 have q0:=hq 0 _ rfl
 have q1:=hq 1 _ rfl
 clear hq
 (replace z:=z.overW x (by (try simp only [lsz]);omega);rw [zaa h'])
 obtain ⟨M,hM⟩:∃ M,M=h.size+1:=⟨_,rfl⟩
 rw [← hM] at q1
 rw [← hM]
 clear q0
 obtain ⟨I1,hI1⟩:∃ I:Nat→Env→Heap→Prop,I=(fun n e h'=>∃ (i:Nat) (h1:Heap),h'=h1.lay [] h1.low∧Ext h h1∧(n=l.length - i∧i≤l.length∧MapK Value.string h1 M (l.take i)∧zbX F [] l=zbX F (l.take i) (l.drop i))∧∃ J:Nat→Value,e=(jr J 0 4 (.map (some M)::jr J 5 16 (p0::.int .i64 l.length::.int .i64 i::jr J 24 24 ([]))))):=⟨_,rfl⟩
 refine zaI I1 _ (by rw [hI1];exact ⟨0,_,rfl,z,⟨rfl,by omega,MapK.new q1,rfl⟩,junk (by kernel_rfl)⟩) ?_
 intro n e h' hin
 rw [hI1] at hin
 obtain ⟨i,h1',rfl,z,hinv,J,rfl⟩:=hin
 clear q1
 obtain ⟨rfl,hi,q1,hee⟩:=hinv
 have hw:IntKind.i64.wrap ((i:Int)+1)=((i+1:Nat):Int):=by rw [wrap_i64 (by omega) (by omega)];omega
 simp -implicitDefEqProofs only [syms,symx,seval,c52]
 refine zaE (fun hlt=>?_) (fun hlt=>?_)
 rotate_left
 ·rw [hee,zdB (by omega)] at hk
  simp -implicitDefEqProofs only [syms,symx,seval,c52]
  exact hk _ (z.upW _ _ (by omega))
 obtain ⟨r,hr,hr'⟩:=za5 (l:=l) (i:=i) (by omega)
 rw [hee,zbi hr'] at hk
 have hFr:F (l.take i) r=zbh [notE (!zeo r) 3,notE (hasP (l.take i) r) 5]:=by rw [hF]
 simp -implicitDefEqProofs only [syms,symx,seval,c52,hva]
 repeat' ((first|with_reducible_and_instances refine ziC (hl.mono z.inc) ds23 sz9 (by omega) hr (fun p hp=>?_)|with_reducible_and_instances refine zcq hp ag9 ?_) <;> simp -implicitDefEqProofs only [syms,symx,seval,c52,hva,hvs])
 simp -implicitDefEqProofs only [syms,symx,seval,c52,zdf,hvs]
 refine zgZ q1 zke ds9q ztO ?_
 simp -implicitDefEqProofs only [syms,symx,seval,c52,zbI,zaX,List.all_cons,List.all_nil,Am.one,Bool.and_true,Bool.true_and,Bool.and_self,List.set_cons_zero,List.set_cons_succ,st4,st3,st9,st39,st42,zhi]
 rw [zcc]
 simp -implicitDefEqProofs only [syms,symx,seval,c52,zbI,zaX,List.all_cons,List.all_nil,Am.one,Bool.and_true,Bool.true_and,Bool.and_self,List.set_cons_zero,List.set_cons_succ,st4,st3,st9,st39,st42,zhi]
 refine zwl r _ ((hsp.ext z).lay _ _) _ (fun h' x=>?_)
 ((skip);replace z:=z.overW x (by (try simp only [lsz]);omega);(try replace q1:=q1.over x);rw [zaa h'])
 clear hp
 simp -implicitDefEqProofs only [syms,symx,seval,c52]
 (with_reducible_and_instances apply zal);(· rfl)
 simp -implicitDefEqProofs only [syms,symx,seval,c52]
 refine zbq _ _ _ _ (fun h' f1 x r1=>?_)
 ((skip);replace z:=z.overW x (by (try simp only [lsz]);omega);(try replace q1:=q1.over x);rw [zaa h'])
 simp -implicitDefEqProofs only [syms,symx,seval,c52]
 refine zbq _ _ _ _ (fun h' f2 x r2=>?_)
 ((skip);replace z:=z.overW x (by (try simp only [lsz]);omega);(try replace q1:=q1.over x);(try replace r1:=r1.over x);rw [zaa h'])
 obtain ⟨g1,u1,v1,rfl⟩:=r1.1
 obtain ⟨g2,u2,v2,rfl⟩:=r2.1
 simp -implicitDefEqProofs only [syms,symx,seval,c52]
 refine zcg [.func g1 u1 v1,.func g2 u2 v2] [notE (!zeo r) 3,notE (hasP (l.take i) r) 5] _ _ (zfM (i:=0) rfl rfl rfl (by simp)) (by simp) rfl (fun i fv e h1 h2=>?_) _ (fun h' x=>?_)
 ·match i,h1,h2 with
  |0,h1,h2=>cases h1;cases h2;exact r1.lay _ _
  |1,h1,h2=>cases h1;cases h2;exact r2.lay _ _
 ((skip);replace z:=z.overW x (by (try simp only [lsz]);omega);(try replace q1:=q1.over x);(try replace r1:=r1.over x);(try replace r2:=r2.over x);rw [zaa h'])
 rw [← hFr]
 clear r1 r2
 simp -implicitDefEqProofs only [syms,symx,seval,c52]
 refine zd5 (fun hne=>?_) (fun heq=>?_)
 ·rw [if_neg hne] at hk
  simp -implicitDefEqProofs only [syms,symx,seval,c52]
  exact hk _ (z.upW _ _ (by omega))
 rw [if_pos heq] at hk
 have hMs:h.size≤M:=by omega
 simp -implicitDefEqProofs only [syms,symx,seval,c52,zoN,zeu]
 refine zk5 q1 zke ds9q (fun h3 q3 cg3=>?_)
 replace z:=z.stepW cg3 hMs (by omega)
 rw [zaa h3]
 simp -implicitDefEqProofs only [syms,symx,seval,c52]
 rw [hw]
 have htk:l.take (i+1)=l.take i++[r]:=by rw [List.take_add_one,hr'];rfl
 rw [← htk] at q3
 (rw [hI1];with_reducible refine zae (m:=_) ?_ ⟨i+1,_,rfl,z,⟨rfl,by omega,q3,by rw [hee,zbi hr',if_pos heq]⟩,junk (by kernel_rfl)⟩;omega)
theorem zqn {l:List PredD} (h:32 < l.length):znc l=4:=if_pos h
theorem zeP (x y:Value):([x,y]:List Value)[0]? = some x:=rfl
theorem zfH (x y:Value):([x,y]:List Value)[1]? = some y:=rfl
theorem zt3 (l:List PredD) (p0 p1 p2 p5 p6:Value) (q b:Int) (h:Heap) (hsp:SpaceAt 1 h) (hl:Sl Rep.pred h p1 l) (K:Value→Heap→Prop) (hk:∀ h',Ext h h'→K (.int .i64 (znc l)) h'):Ok Tryz.prog tab ov 53 [zbO p0 p1 p2 p5 p6 q b] h K:=by
 rw [zaa h]
 have z:=Ext.refl h
 have hle:=hl.le
 have hva:=zaQ p1
 have hvs:∀ (s:ByteArray) (h:Heap) (K:Value→Heap→Prop),valE (some (.string s)) h K=K (.string s) h:=fun _ _ _=>rfl
 have hlv:=fun (hh:Heap)=>hl.lenA ds24 hh
 refine Ok.into rfl zzg (zaB N53) rfl (m:=53) rfl ?_
 simp -implicitDefEqProofs only [syms,symx,seval,c53,zax,pol1,hva,hlv]
 refine zaE (fun h2=>?_) (fun h2=>?_)
 ·rw [zqn (by omega)] at hk
  simp -implicitDefEqProofs only [syms,symx,seval,c53]
  exact hk _ (z.upW _ _ (by omega))
 have hpe:znc l=zbX (fun pre x=>zbh [notE (!zeo x.name) 3,notE (hasP (pre.map PredD.name) x.name) 5,notE (decide (x.arity < 0∨4 < x.arity)) 4]) [] l:=if_neg (by omega)
 rw [hpe] at hk
 obtain ⟨F,hF⟩:∃ F:List PredD→PredD→Int,F=fun pre x=>zbh [notE (!zeo x.name) 3,notE (hasP (pre.map PredD.name) x.name) 5,notE (decide (x.arity < 0∨4 < x.arity)) 4]:=⟨_,rfl⟩
 rw [← hF] at hk
 simp -implicitDefEqProofs only [syms,symx,seval,c53,ze3,zax,pol1,hva,hlv]
 refine zd8 (fun h' x hq=>?_)
 have q0:=hq 0 _ rfl
 have q1:=hq 1 _ rfl
 clear hq
 (replace z:=z.overW x (by (try simp only [lsz]);omega);rw [zaa h'])
 obtain ⟨M,hM⟩:∃ M,M=h.size+1:=⟨_,rfl⟩
 rw [← hM] at q1
 rw [← hM]
 clear q0
 obtain ⟨I1,hI1⟩:∃ I:Nat→Env→Heap→Prop,I=(fun n e h'=>∃ (i:Nat) (h1:Heap),h'=h1.lay [] h1.low∧Ext h h1∧(n=l.length - i∧i≤l.length∧MapK Value.string h1 M ((l.take i).map PredD.name)∧zbX F [] l=zbX F (l.take i) (l.drop i))∧∃ J:Nat→Value,e=(jr J 0 3 (.map (some M)::jr J 4 11 (p1::.int .i64 l.length::.int .i64 i::jr J 18 36 ([]))))):=⟨_,rfl⟩
 refine zaI I1 _ (by rw [hI1];exact ⟨0,_,rfl,z,⟨rfl,by omega,MapK.new q1,rfl⟩,junk (by kernel_rfl)⟩) ?_
 intro n e h' hin
 rw [hI1] at hin
 obtain ⟨i,h1',rfl,z,hinv,J,rfl⟩:=hin
 clear q1
 obtain ⟨rfl,hi,q1,hee⟩:=hinv
 have hw:IntKind.i64.wrap ((i:Int)+1)=((i+1:Nat):Int):=by rw [wrap_i64 (by omega) (by omega)];omega
 simp -implicitDefEqProofs only [syms,symx,seval,c53]
 refine zaE (fun hlt=>?_) (fun hlt=>?_)
 rotate_left
 ·rw [hee,zdB (by omega)] at hk
  simp -implicitDefEqProofs only [syms,symx,seval,c53]
  exact hk _ (z.upW _ _ (by omega))
 obtain ⟨r,hr,hr'⟩:=za5 (l:=l) (i:=i) (by omega)
 rw [hee,zbi hr'] at hk
 have hFr:F (l.take i) r=zbh [notE (!zeo r.name) 3,notE (hasP ((l.take i).map PredD.name) r.name) 5,notE (decide (r.arity < 0∨4 < r.arity)) 4]:=by rw [hF]
 simp -implicitDefEqProofs only [syms,symx,seval,c53,hva]
 repeat' ((first|with_reducible_and_instances refine zsx (hl.mono z.inc) ds24 sz67 (by omega) hr (fun p hp=>?_)|with_reducible_and_instances refine ldP hp ag67 sz67 ?_) <;> simp -implicitDefEqProofs only [syms,symx,seval,c53,hva,hvs])
 simp -implicitDefEqProofs only [syms,symx,seval,c53,zbI,zaX,List.all_cons,List.all_nil,Am.one,Bool.and_true,Bool.true_and,Bool.and_self,List.set_cons_zero,List.set_cons_succ,st4,st3,st9,st39,st42,zCs,zdf,hvs]
 refine zgZ q1 zke ds9q ztO ?_
 simp -implicitDefEqProofs only [syms,symx,seval,c53,zbI,zaX,List.all_cons,List.all_nil,Am.one,Bool.and_true,Bool.true_and,Bool.and_self,List.set_cons_zero,List.set_cons_succ,st4,st3,st9,st39,st42,zhi]
 rw [zcc]
 simp -implicitDefEqProofs only [syms,symx,seval,c53,zbI,zaX,List.all_cons,List.all_nil,Am.one,Bool.and_true,Bool.true_and,Bool.and_self,List.set_cons_zero,List.set_cons_succ,st4,st3,st9,st39,st42,zhi]
 refine zd8 (fun h' x hq=>?_)
 have e0:=hq 0 _ rfl
 clear hq
 (replace z:=z.overW x (by (try simp only [lsz]);omega);(try replace q1:=q1.over x);rw [zaa h'])
 obtain ⟨E0,hE0⟩:∃ E0,E0=h1'.size+0:=⟨_,rfl⟩
 rw [← hE0] at e0
 rw [← hE0]
 clear hp
 with_reducible first|refine zbT (by simp only [c53]) (z.upW _ _ (by omega)) ?_
 simp -implicitDefEqProofs only [syms,symx,seval,c53,e0.lay,zeP,zfH,hvs]
 refine zzv r.name _ ((hsp.ext z).lay _ _) _ (fun h' x=>?_)
 (( ((with_reducible refine zaq ?_ ?_ ?_);(· exact (by (try simp only [lsz]);have:=z.size;omega));(·  exact x )) );replace z:=z.overW x (by (try simp only [lsz]);omega);(try replace q1:=q1.over x);(try replace e0:=e0.over x);rw [zaa h'])
 simp -implicitDefEqProofs only [syms,symx,seval,c53]
 (with_reducible_and_instances apply zal);(· rfl)
 simp -implicitDefEqProofs only [syms,symx,seval,c53]
 refine zbq _ _ _ _ (fun h' f1 x r1=>?_)
 (( ((with_reducible refine zaq ?_ ?_ ?_);(· exact (by (try simp only [lsz]);have:=z.size;omega));(·  exact x )) );replace z:=z.overW x (by (try simp only [lsz]);omega);(try replace q1:=q1.over x);(try replace e0:=e0.over x);rw [zaa h'])
 simp -implicitDefEqProofs only [syms,symx,seval,c53]
 refine zbq _ _ _ _ (fun h' f2 x r2=>?_)
 (( ((with_reducible refine zaq ?_ ?_ ?_);(· exact (by (try simp only [lsz]);have:=z.size;omega));(·  exact x )) );replace z:=z.overW x (by (try simp only [lsz]);omega);(try replace q1:=q1.over x);(try replace e0:=e0.over x);(try replace r1:=r1.over x);rw [zaa h'])
 simp -implicitDefEqProofs only [syms,symx,seval,c53,e0.lay,zeP,zfH,hvs]
 refine zaE (fun c1=>?_) (fun c1=>?_)
 ·have hbb:decide (r.arity < 0∨4 < r.arity)=true:=by simp [c1]
  rw [hbb] at hFr
  simp -implicitDefEqProofs only [syms,symx,seval,c53,e0.lay,zeP,zfH,hvs]
  refine zbq _ _ _ _ (fun h' f3 x r3=>?_)
  (( ((with_reducible refine zaq ?_ ?_ ?_);(· exact (by (try simp only [lsz]);have:=z.size;omega));(·  exact x )) );replace z:=z.overW x (by (try simp only [lsz]);omega);(try replace q1:=q1.over x);(try replace e0:=e0.over x);(try replace r1:=r1.over x);(try replace r2:=r2.over x);rw [zaa h'])
  obtain ⟨g1,u1,v1,rfl⟩:=r1.1
  obtain ⟨g2,u2,v2,rfl⟩:=r2.1
  obtain ⟨g3,u3,v3,rfl⟩:=r3.1
  simp -implicitDefEqProofs only [syms,symx,seval,c53]
  refine zcm (by have:=z.size;omega) (by omega) ?_
  simp -implicitDefEqProofs only [syms,symx,seval,c53]
  refine zcg [.func g1 u1 v1,.func g2 u2 v2,.func g3 u3 v3] [notE (!zeo r.name) 3,notE (hasP ((l.take i).map PredD.name) r.name) 5,notE true 4] _ _ (zfM (i:=0) rfl rfl rfl (by simp)) (by simp) rfl (fun i fv e h1 h2=>?_) _ (fun h' x=>?_)
  ·match i,h1,h2 with
   |0,h1,h2=>cases h1;cases h2;exact r1.lay _ _
   |1,h1,h2=>cases h1;cases h2;exact r2.lay _ _
   |2,h1,h2=>cases h1;cases h2;exact r3.lay _ _
  (( ((with_reducible refine zaq ?_ ?_ ?_);(· exact (by (try simp only [lsz]);have:=z.size;omega));(·  exact x )) );replace z:=z.overW x (by (try simp only [lsz]);omega);(try replace q1:=q1.over x);(try replace r1:=r1.over x);(try replace r2:=r2.over x);(try replace r3:=r3.over x);rw [zaa h'])
  rw [← hFr]
  clear r1 r2 r3
  simp -implicitDefEqProofs only [syms,symx,seval,c53]
  ((with_reducible refine ⟨z.grw.lay _ _,?_⟩);(intro _ h' zz x _);(try simp only [zat,List.append_nil] at x);(try replace q1:=q1.over x);(try replace r1:=r1.over x);(try replace r2:=r2.over x);(try replace r3:=r3.over x);(replace z:=zz);(clear zz);rw [zaa h'])
  simp -implicitDefEqProofs only [syms,symx,seval,c53]
  refine zd5 (fun hne=>?_) (fun heq=>?_)
  ·rw [if_neg hne] at hk
   simp -implicitDefEqProofs only [syms,symx,seval,c53]
   exact hk _ (z.upW _ _ (by omega))
  ·rw [heq] at hFr
   have:=firstE_zero.1 hFr.symm 4 (by simp [notE])
   omega
 ·have hbb:decide (r.arity < 0∨4 < r.arity)=decide (4 < r.arity):=by simp [c1]
  rw [hbb] at hFr
  simp -implicitDefEqProofs only [syms,symx,seval,c53,e0.lay,zeP,zfH,hvs]
  repeat (rw [zcc];simp -implicitDefEqProofs only [syms,symx,seval,c53,e0.lay,zeP,zfH,hvs])
  refine zbq _ _ _ _ (fun h' f3 x r3=>?_)
  (( ((with_reducible refine zaq ?_ ?_ ?_);(· exact (by (try simp only [lsz]);have:=z.size;omega));(·  exact x )) );replace z:=z.overW x (by (try simp only [lsz]);omega);(try replace q1:=q1.over x);(try replace e0:=e0.over x);(try replace r1:=r1.over x);(try replace r2:=r2.over x);rw [zaa h'])
  obtain ⟨g1,u1,v1,rfl⟩:=r1.1
  obtain ⟨g2,u2,v2,rfl⟩:=r2.1
  obtain ⟨g3,u3,v3,rfl⟩:=r3.1
  simp -implicitDefEqProofs only [syms,symx,seval,c53]
  refine zcm (by have:=z.size;omega) (by omega) ?_
  simp -implicitDefEqProofs only [syms,symx,seval,c53]
  refine zcg [.func g1 u1 v1,.func g2 u2 v2,.func g3 u3 v3] [notE (!zeo r.name) 3,notE (hasP ((l.take i).map PredD.name) r.name) 5,notE (decide (4 < r.arity)) 4] _ _ (zfM (i:=0) rfl rfl rfl (by simp)) (by simp) rfl (fun i fv e h1 h2=>?_) _ (fun h' x=>?_)
  ·match i,h1,h2 with
   |0,h1,h2=>cases h1;cases h2;exact r1.lay _ _
   |1,h1,h2=>cases h1;cases h2;exact r2.lay _ _
   |2,h1,h2=>cases h1;cases h2;exact r3.lay _ _
  (( ((with_reducible refine zaq ?_ ?_ ?_);(· exact (by (try simp only [lsz]);have:=z.size;omega));(·  exact x )) );replace z:=z.overW x (by (try simp only [lsz]);omega);(try replace q1:=q1.over x);(try replace e0:=e0.over x);(try replace r1:=r1.over x);(try replace r2:=r2.over x);(try replace r3:=r3.over x);rw [zaa h'])
  rw [← hFr]
  clear r1 r2 r3
  simp -implicitDefEqProofs only [syms,symx,seval,c53]
  ((with_reducible refine ⟨z.grw.lay _ _,?_⟩);(intro _ h' zz x _);(try simp only [zat,List.append_nil] at x);(try replace q1:=q1.over x);(try replace e0:=e0.over x);(try replace r1:=r1.over x);(try replace r2:=r2.over x);(try replace r3:=r3.over x);(replace z:=zz);(clear zz);rw [zaa h'])
  simp -implicitDefEqProofs only [syms,symx,seval,c53]
  refine zd5 (fun hne=>?_) (fun heq=>?_)
  ·rw [if_neg hne] at hk
   simp -implicitDefEqProofs only [syms,symx,seval,c53]
   exact hk _ (z.upW _ _ (by omega))
  rw [if_pos heq] at hk
  have hMs:h.size≤M:=by omega
  simp -implicitDefEqProofs only [syms,symx,seval,c53,e0.lay,zeP,hvs,zoN,zeu]
  refine zk5 q1 zke ds9q (fun h3 q3 cg3=>?_)
  replace z:=z.stepW cg3 hMs (by omega)
  rw [zaa h3]
  simp -implicitDefEqProofs only [syms,symx,seval,c53]
  rw [hw]
  have htk:(l.take (i+1)).map PredD.name=(l.take i).map PredD.name++[r.name]:=by rw [List.take_add_one,hr'];simp
  rw [← htk] at q3
  (rw [hI1];with_reducible refine zae (m:=_) ?_ ⟨i+1,_,rfl,z,⟨rfl,by omega,q3,by rw [hee,zbi hr',if_pos heq]⟩,junk (by kernel_rfl)⟩;omega)
theorem zd3 {α:Type} {r:Rep α} {h:Heap} {v:Value} {l:List α} (f:Sl r h v l):∃ a n c,v=.slice a n c:=by
 rcases f with ⟨rfl,_⟩|⟨A,o,c,row,u,ro,rfl,_⟩ <;> exact ⟨_,_,_,rfl⟩
theorem zvr {h:Heap} {v:Value} {l:List ByteArray} (f:Sl Rep.str h v l) (i:Nat) (hi:i≤l.length):∃ a n c,zbn tab 23 v none (some (.int .i64 i)) none=some (.slice a n c)∧Sl Rep.str h (.slice a n c) (l.take i):=by
 obtain ⟨u1,g1,g2⟩:=f.sub (a:=0) (b:=i) (by decide) ds23 sz9 (.inl ⟨rfl,rfl⟩) (.inr ⟨.i64,rfl⟩) (by omega) hi
 obtain ⟨a,n,c,rfl⟩:=zd3 g2
 exact ⟨a,n,c,g1,by simpa using g2⟩
theorem zmv {ps:List ByteArray} {c:ClearD} (h:c.reads.length < 1∨16 < c.reads.length):zgy ps c=4:=if_pos h
theorem zuk (ps:List ByteArray) (c:ClearD) (v:Value) (p0 p1 p2 p5 p6:Value) (q b:Int) (h:Heap) (hone:(zaw p0 p1 p2 p5 p6 q b).all Am.one=true) (h0:Sl Rep.str h p0 ps) (hs:ps.length≤1000) (hv:Sl Rep.str h v c.reads) (K:Value→Heap→Prop) (hk:∀ h',Ext h h'→K (.int .i64 (zgy ps c)) h'):Ok Tryz.prog tab ov 83 [zbO p0 p1 p2 p5 p6 q b,.agg ⟨[.string c.who,v]⟩] h K:=by
 rw [zaa h]
 have z:=Ext.refl h
 have hle:=hv.le
 have hva:=zaQ v
 have hvs:∀ (s:ByteArray) (h:Heap) (K:Value→Heap→Prop),valE (some (.string s)) h K=K (.string s) h:=fun _ _ _=>rfl
 have hlv:=fun (hh:Heap)=>hv.lenA ds23 hh
 refine Ok.into rfl zxN (zaB N83) rfl (m:=47) rfl ?_
 simp -implicitDefEqProofs only [syms,symx,seval,c83,zax,hva,hlv]
 refine zaE (fun h1=>?_) (fun h1=>?_)
 ·rw [zmv (.inl (by omega))] at hk
  simp -implicitDefEqProofs only [syms,symx,seval,c83]
  exact hk _ (z.upW _ _ (by omega))
 simp -implicitDefEqProofs only [syms,symx,seval,c83]
 refine zaE (fun h2=>?_) (fun h2=>?_)
 ·rw [zmv (.inr (by omega))] at hk
  simp -implicitDefEqProofs only [syms,symx,seval,c83]
  exact hk _ (z.upW _ _ (by omega))
 have hpe:zgy ps c=zbX (fun pre w=>zbh [notE (!hasP ps w) 6,notE (decide (w=c.who)) 11,notE (hasP pre w) 5]) [] c.reads:=if_neg (by omega)
 rw [hpe] at hk
 obtain ⟨F,hF⟩:∃ F:List ByteArray→ByteArray→Int,F=fun pre w=>zbh [notE (!hasP ps w) 6,notE (decide (w=c.who)) 11,notE (hasP pre w) 5]:=⟨_,rfl⟩
 rw [← hF] at hk
 simp -implicitDefEqProofs only [syms,symx,seval,c83,hva,hlv]
 refine zd8 (fun h' x hq=>?_)
 have q0:=hq 0 _ rfl
 have q1:=hq 1 _ rfl
 clear hq
 (replace z:=z.overW x (by (try simp only [lsz]);omega);rw [zaa h'])
 obtain ⟨A0,hA0⟩:∃ A0,A0=h.size+0:=⟨_,rfl⟩
 rw [← hA0] at q0
 rw [← hA0]
 obtain ⟨A1,hA1⟩:∃ A1,A1=h.size+1:=⟨_,rfl⟩
 rw [← hA1] at q1
 rw [← hA1]
 obtain ⟨I1,hI1⟩:∃ I:Nat→Env→Heap→Prop,I=(fun n e h'=>∃ (i:Nat) (h1:Heap),h'=h1.lay [] h1.low∧Ext h h1∧(n=c.reads.length - i∧i≤c.reads.length∧Holds h1 A0 (.row (zaw p0 p1 p2 p5 p6 q b) 29 false)∧Holds h1 A1 (.row [.string c.who,v] 69 false)∧zbX F [] c.reads=zbX F (c.reads.take i) (c.reads.drop i))∧∃ J:Nat→Value,e=(jr J 0 2 (.pointer (some ⟨A0,0,none⟩)::.pointer (some ⟨A1,0,none⟩)::jr J 4 15 (v::.int .i64 c.reads.length::.int .i64 i::jr J 22 27 ([]))))):=⟨_,rfl⟩
 refine zaI I1 _ (by rw [hI1];exact ⟨0,_,rfl,z,⟨rfl,by omega,q0,q1,rfl⟩,junk (by kernel_rfl)⟩) ?_
 intro n e h' hin
 rw [hI1] at hin
 obtain ⟨i,h1',rfl,z,hinv,J,rfl⟩:=hin
 clear q0 q1
 obtain ⟨rfl,hi,q0,q1,hee⟩:=hinv
 have hw:IntKind.i64.wrap ((i:Int)+1)=((i+1:Nat):Int):=by rw [wrap_i64 (by omega) (by omega)];omega
 simp -implicitDefEqProofs only [syms,symx,seval,c83]
 refine zaE (fun hlt=>?_) (fun hlt=>?_)
 rotate_left
 ·rw [hee,zdB (by omega)] at hk
  simp -implicitDefEqProofs only [syms,symx,seval,c83]
  exact hk _ (z.upW _ _ (by omega))
 obtain ⟨r,hr,hr'⟩:=za5 (l:=c.reads) (i:=i) (by omega)
 rw [hee,zbi hr'] at hk
 have hFr:F (c.reads.take i) r=zbh [notE (!hasP ps r) 6,notE (decide (r=c.who)) 11,notE (hasP (c.reads.take i) r) 5]:=by rw [hF]
 obtain ⟨a,m,cc,g1,g2⟩:=zvr hv i hi
 have hvw:∀ (h:Heap) (K:Value→Heap→Prop),valE (some (.slice a m cc)) h K=K (.slice a m cc) h:=fun _ _=>rfl
 simp -implicitDefEqProofs only [syms,symx,seval,c83,hva]
 repeat' ((first|with_reducible_and_instances refine ziC (hv.mono z.inc) ds23 sz9 (by omega) hr (fun p hp=>?_)|with_reducible_and_instances refine zcq hp ag9 ?_) <;> simp -implicitDefEqProofs only [syms,symx,seval,c83,hva,hvs])
 clear hp
 with_reducible first|refine zbT (by simp only [c83]) (z.upW _ _ (by omega)) ?_
 simp -implicitDefEqProofs only [syms,symx,seval,c83,q0.lay,q1.lay,zeP,zfH,hvs,zax,↓zbG,zbD,za6]
 refine zcB ps r _ _ _ _ _ _ _ _ ((h0.mono z.inc).lay _ _) hs _ (fun h' x=>?_)
 (( ((with_reducible refine zaq ?_ ?_ ?_);(· exact (by (try simp only [lsz]);have:=z.size;omega));(·  exact x )) );replace z:=z.overW x (by (try simp only [lsz]);omega);(try replace q0:=q0.over x);(try replace q1:=q1.over x);rw [zaa h'])
 simp -implicitDefEqProofs only [syms,symx,seval,c83]
 (with_reducible_and_instances apply zal);(· rfl)
 simp -implicitDefEqProofs only [syms,symx,seval,c83]
 refine zbq _ _ _ _ (fun h' f1 x r1=>?_)
 (( ((with_reducible refine zaq ?_ ?_ ?_);(· exact (by (try simp only [lsz]);have:=z.size;omega));(·  exact x )) );replace z:=z.overW x (by (try simp only [lsz]);omega);(try replace q0:=q0.over x);(try replace q1:=q1.over x);rw [zaa h'])
 simp -implicitDefEqProofs only [syms,symx,seval,c83,q0.lay,q1.lay,zeP,zfH,hvs]
 rw [zcc]
 simp -implicitDefEqProofs only [syms,symx,seval,c83,q0.lay,q1.lay,zeP,zfH,hvs]
 refine zbq _ _ _ _ (fun h' f2 x r2=>?_)
 (( ((with_reducible refine zaq ?_ ?_ ?_);(· exact (by (try simp only [lsz]);have:=z.size;omega));(·  exact x )) );replace z:=z.overW x (by (try simp only [lsz]);omega);(try replace q0:=q0.over x);(try replace q1:=q1.over x);(try replace r1:=r1.over x);rw [zaa h'])
 simp -implicitDefEqProofs only [syms,symx,seval,c83,q0.lay,q1.lay,zeP,zfH,hva,g1,hvw,hvs]
 refine zb7 (c.reads.take i) _ r _ ((g2.mono z.inc).lay _ _) (by rw [List.length_take];omega) _ (fun h' x=>?_)
 (( ((with_reducible refine zaq ?_ ?_ ?_);(· exact (by (try simp only [lsz]);have:=z.size;omega));(·  exact x )) );replace z:=z.overW x (by (try simp only [lsz]);omega);(try replace q0:=q0.over x);(try replace q1:=q1.over x);(try replace r1:=r1.over x);(try replace r2:=r2.over x);rw [zaa h'])
 simp -implicitDefEqProofs only [syms,symx,seval,c83]
 refine zbq _ _ _ _ (fun h' f3 x r3=>?_)
 (( ((with_reducible refine zaq ?_ ?_ ?_);(· exact (by (try simp only [lsz]);have:=z.size;omega));(·  exact x )) );replace z:=z.overW x (by (try simp only [lsz]);omega);(try replace q0:=q0.over x);(try replace q1:=q1.over x);(try replace r1:=r1.over x);(try replace r2:=r2.over x);rw [zaa h'])
 obtain ⟨k1,u1,v1,rfl⟩:=r1.1
 obtain ⟨k2,u2,v2,rfl⟩:=r2.1
 obtain ⟨k3,u3,v3,rfl⟩:=r3.1
 simp -implicitDefEqProofs only [syms,symx,seval,c83]
 refine zcm (by have:=z.size;omega) (by omega) ?_
 simp -implicitDefEqProofs only [syms,symx,seval,c83]
 refine zcg [.func k1 u1 v1,.func k2 u2 v2,.func k3 u3 v3] [notE (!hasP ps r) 6,notE (decide (r=c.who)) 11,notE (hasP (c.reads.take i) r) 5] _ _ (zfM (i:=0) rfl rfl rfl (by simp)) (by simp) rfl (fun i fv e h1 h2=>?_) _ (fun h' x=>?_)
 ·match i,h1,h2 with
  |0,h1,h2=>cases h1;cases h2;exact r1.lay _ _
  |1,h1,h2=>cases h1;cases h2;exact r2.lay _ _
  |2,h1,h2=>cases h1;cases h2;exact r3.lay _ _
 (( ((with_reducible refine zaq ?_ ?_ ?_);(· exact (by (try simp only [lsz]);have:=z.size;omega));(·  exact x )) );replace z:=z.overW x (by (try simp only [lsz]);omega);(try replace q0:=q0.over x);(try replace q1:=q1.over x);(try replace r1:=r1.over x);(try replace r2:=r2.over x);(try replace r3:=r3.over x);rw [zaa h'])
 rw [← hFr]
 clear r1 r2 r3
 simp -implicitDefEqProofs only [syms,symx,seval,c83]
 ((with_reducible refine ⟨z.grw.lay _ _,?_⟩);(intro _ h' zz x _);(try simp only [zat,List.append_nil] at x);(try replace q0:=q0.over x);(try replace q1:=q1.over x);(try replace r1:=r1.over x);(try replace r2:=r2.over x);(try replace r3:=r3.over x);(replace z:=zz);(clear zz);rw [zaa h'])
 simp -implicitDefEqProofs only [syms,symx,seval,c83]
 refine zd5 (fun hne=>?_) (fun heq=>?_)
 ·rw [if_neg hne] at hk
  simp -implicitDefEqProofs only [syms,symx,seval,c83]
  exact hk _ (z.upW _ _ (by omega))
 rw [if_pos heq] at hk
 simp -implicitDefEqProofs only [syms,symx,seval,c83]
 rw [hw]
 (rw [hI1];with_reducible refine zae (m:=_) ?_ ⟨i+1,_,rfl,z,⟨rfl,by omega,q0,q1,by rw [hee,zbi hr',if_pos heq]⟩,junk (by kernel_rfl)⟩;omega)
theorem zrw (ps:List ByteArray) (c:ClearD) (v:Value) (p0 p1 p2 p5 p6:Value) (q b:Int) (A B:Nat) (h:Heap) (hone:(zaw p0 p1 p2 p5 p6 q b).all Am.one=true) (h0:Sl Rep.str h p0 ps) (hs:ps.length≤1000) (hv:Sl Rep.str h v c.reads) (q0:Holds h A (.row (zaw p0 p1 p2 p5 p6 q b) 29 false)) (q1:Holds h B (.row [.string c.who,v] 69 false)) (K:Value→Heap→Prop) (hk:∀ h',Ext h h'→K (.int .i64 (zgy ps c)) h'):Ok Tryz.prog tab ov 82 [.pointer (some ⟨A,0,none⟩),.pointer (some ⟨B,0,none⟩)] h K:=by
 rw [zaa h]
 have z:=Ext.refl h
 refine Ok.into rfl zu7 (zaB N82) rfl (m:=4) rfl ?_
 simp -implicitDefEqProofs only [syms,symx,seval,c82,q0.lay,q1.lay,zax,↓zbG,zbD,za6]
 refine zuk ps c v _ _ _ _ _ _ _ _ hone (h0.lay _ _) hs (hv.lay _ _) _ (fun h' x=>?_)
 ((skip);replace z:=z.overW x (by (try simp only [lsz]);omega);rw [zaa h'])
 simp -implicitDefEqProofs only [syms,symx,seval,c82]
 exact hk _ (z.upW _ _ (by omega))
theorem zDc (h:Heap) (l:List Blk) (w i o:Nat) (v:Value) (hi:i < l.length):za8 tab 69 (.pointer (some ⟨h.size+i,o,none⟩)) v (h.lay l w)=if v.cells.size=2 then zee l[i]? i o v.cells.toList h l w else none:=zfI sz69 h l w i o v hi
theorem zrG (d:PolicyD) (p0 p1 p2 p5 p6:Value) (q b:Int) (h:Heap) (hone:(zaw p0 p1 p2 p5 p6 q b).all Am.one=true) (h0:Sl Rep.str h p0 d.principals) (h2:Sl Rep.clear h p2 d.clears) (hs:d.principals.length≤1000) (hs2:d.clears.length≤1000) (K:Value→Heap→Prop) (hk:∀ h',Ext h h'→K (.int .i64 (zk6 d.principals d.clears)) h'):Ok Tryz.prog tab ov 54 [zbO p0 p1 p2 p5 p6 q b] h K:=by
 rw [zaa h]
 have z:=Ext.refl h
 have hva:=zaQ p2
 have hvs:∀ (s:ByteArray) (h:Heap) (K:Value→Heap→Prop),valE (some (.string s)) h K=K (.string s) h:=fun _ _ _=>rfl
 have hlv:=fun (hh:Heap)=>h2.lenA ds25 hh
 obtain ⟨F,hF⟩:∃ F:List ClearD→ClearD→Int,F=fun pre c=>zbh [notE (!hasP d.principals c.who) 6,notE (hasP (pre.map ClearD.who) c.who) 5,zgy d.principals c]:=⟨_,rfl⟩
 have hpe:zk6 d.principals d.clears=zbX F [] d.clears:=by rw [hF];rfl
 rw [hpe] at hk
 refine Ok.into rfl zvd (zaB N54) rfl (m:=42) rfl ?_
 simp -implicitDefEqProofs only [syms,symx,seval,c54,ze3,zax,pol2,hva,hlv]
 refine zd8 (fun h' x hq=>?_)
 have q0:=hq 0 _ rfl
 have q1:=hq 1 _ rfl
 clear hq
 (replace z:=z.overW x (by (try simp only [lsz]);omega);rw [zaa h'])
 obtain ⟨A0,hA0⟩:∃ A0,A0=h.size+0:=⟨_,rfl⟩
 rw [← hA0] at q0
 rw [← hA0]
 obtain ⟨M,hM⟩:∃ M,M=h.size+1:=⟨_,rfl⟩
 rw [← hM] at q1
 rw [← hM]
 have hAM:A0≠M:=by omega
 obtain ⟨I1,hI1⟩:∃ I:Nat→Env→Heap→Prop,I=(fun n e h'=>∃ (i:Nat) (h1:Heap),h'=h1.lay [] h1.low∧Ext h h1∧(n=d.clears.length - i∧i≤d.clears.length∧Holds h1 A0 (.row (zaw p0 p1 p2 p5 p6 q b) 29 false)∧MapK Value.string h1 M ((d.clears.take i).map ClearD.who)∧zbX F [] d.clears=zbX F (d.clears.take i) (d.clears.drop i))∧∃ J:Nat→Value,e=(J 0::.pointer (some ⟨A0,0,none⟩)::J 2::.map (some M)::jr J 4 7 (p2::.int .i64 d.clears.length::.int .i64 i::jr J 14 29 ([])))):=⟨_,rfl⟩
 refine zaI I1 _ (by rw [hI1];exact ⟨0,_,rfl,z,⟨rfl,by omega,q0,MapK.new q1,rfl⟩,junk (by kernel_rfl)⟩) ?_
 intro n e h' hin
 rw [hI1] at hin
 obtain ⟨i,h1',rfl,z,hinv,J,rfl⟩:=hin
 clear q0 q1
 obtain ⟨rfl,hi,q0,q1,hee⟩:=hinv
 have hw:IntKind.i64.wrap ((i:Int)+1)=((i+1:Nat):Int):=by rw [wrap_i64 (by omega) (by omega)];omega
 simp -implicitDefEqProofs only [syms,symx,seval,c54]
 refine zaE (fun hlt=>?_) (fun hlt=>?_)
 rotate_left
 ·rw [hee,zdB (by omega)] at hk
  simp -implicitDefEqProofs only [syms,symx,seval,c54]
  exact hk _ (z.upW _ _ (by omega))
 obtain ⟨r,hr,hr'⟩:=za5 (l:=d.clears) (i:=i) (by omega)
 rw [hee,zbi hr'] at hk
 have hFr:F (d.clears.take i) r=zbh [notE (!hasP d.principals r.who) 6,notE (hasP ((d.clears.take i).map ClearD.who) r.who) 5,zgy d.principals r]:=by rw [hF]
 simp -implicitDefEqProofs only [syms,symx,seval,c54,hva]
 refine zzR (h2.mono z.inc) ds25 sz69 (by omega) hr (fun p v hv hp=>?_)
 have hone2:Am.one v=true:=hv.one
 have hvv:=zaQ v
 obtain ⟨av,nv,cv,rfl⟩:=zd3 hv
 repeat' (first|simp -implicitDefEqProofs only [syms,symx,seval,c54,hvs]|with_reducible_and_instances refine ldP hp ag69 sz69 ?_)
 simp -implicitDefEqProofs only [syms,symx,seval,c54,zbI,zaX,List.all_cons,List.all_nil,Am.one,Bool.and_true,Bool.true_and,Bool.and_self,List.set_cons_zero,List.set_cons_succ,st4,st3,st9,st39,st42,zDc,zdf,hvs]
 refine zgZ q1 zke ds9q ztO ?_
 simp -implicitDefEqProofs only [syms,symx,seval,c54,zbI,zaX,List.all_cons,List.all_nil,Am.one,Bool.and_true,Bool.true_and,Bool.and_self,List.set_cons_zero,List.set_cons_succ,st4,st3,st9,st39,st42,zhi]
 rw [zcc]
 simp -implicitDefEqProofs only [syms,symx,seval,c54,zbI,zaX,List.all_cons,List.all_nil,Am.one,Bool.and_true,Bool.true_and,Bool.and_self,List.set_cons_zero,List.set_cons_succ,st4,st3,st9,st39,st42,zhi]
 clear hp
 simp -implicitDefEqProofs only [syms,symx,seval,c54,q0.lay,zeP,zfH,hvs,zax,↓zbG,zbD,za6]
 refine zcB d.principals r.who _ _ _ _ _ _ _ _ ((h0.mono z.inc).lay _ _) hs _ (fun h' x=>?_)
 have e0:=Holds.top (i:=0) x rfl
 ((skip);replace z:=z.overW x (by (try simp only [lsz]);omega);(try replace q0:=q0.over x);(try replace q1:=q1.over x);(try replace hv:=hv.over x);rw [zaa h'])
 obtain ⟨E0,hE0⟩:∃ E0,E0=h1'.size+0:=⟨_,rfl⟩
 rw [← hE0] at e0
 rw [← hE0]
 simp -implicitDefEqProofs only [syms,symx,seval,c54]
 (with_reducible_and_instances apply zal);(· rfl)
 simp -implicitDefEqProofs only [syms,symx,seval,c54]
 refine zbq _ _ _ _ (fun h' f1 x r1=>?_)
 ((skip);replace z:=z.overW x (by (try simp only [lsz]);omega);(try replace q0:=q0.over x);(try replace q1:=q1.over x);(try replace e0:=e0.over x);(try replace hv:=hv.over x);rw [zaa h'])
 simp -implicitDefEqProofs only [syms,symx,seval,c54]
 refine zbq _ _ _ _ (fun h' f2 x r2=>?_)
 ((skip);replace z:=z.overW x (by (try simp only [lsz]);omega);(try replace q0:=q0.over x);(try replace q1:=q1.over x);(try replace e0:=e0.over x);(try replace hv:=hv.over x);(try replace r1:=r1.over x);rw [zaa h'])
 have r3:RuleF h' (.func (.func 82) ⟨[]⟩ ⟨[.pointer (some ⟨A0,0,none⟩),.pointer (some ⟨E0,0,none⟩)]⟩) (zgy d.principals r):=⟨⟨_,_,_,rfl⟩,fun hc K2 y hk2=>by
  rw [zbQ]
  exact zrw d.principals r _ _ _ _ _ _ _ _ A0 E0 hc hone ((h0.mono z.inc).mono y.all) hs (hv.mono y.all) (Holds.frs0 q0 y) (Holds.frs0 e0 y) K2 hk2⟩
 obtain ⟨k1,u1,v1,rfl⟩:=r1.1
 obtain ⟨k2,u2,v2,rfl⟩:=r2.1
 simp -implicitDefEqProofs only [syms,symx,seval,c54]
 refine zcg [.func k1 u1 v1,.func k2 u2 v2,.func (.func 82) ⟨[]⟩ ⟨[.pointer (some ⟨A0,0,none⟩),.pointer (some ⟨E0,0,none⟩)]⟩] [notE (!hasP d.principals r.who) 6,notE (hasP ((d.clears.take i).map ClearD.who) r.who) 5,zgy d.principals r] _ _ (zfM (i:=0) rfl rfl rfl (by simp)) (by simp) rfl (fun i fv e h1 h2=>?_) _ (fun h' x=>?_)
 ·match i,h1,h2 with
  |0,h1,h2=>cases h1;cases h2;exact r1.lay _ _
  |1,h1,h2=>cases h1;cases h2;exact r2.lay _ _
  |2,h1,h2=>cases h1;cases h2;exact r3.lay _ _
 ((skip);replace z:=z.overW x (by (try simp only [lsz]);omega);(try replace q0:=q0.over x);(try replace q1:=q1.over x);(try replace e0:=e0.over x);(try replace hv:=hv.over x);(try replace r1:=r1.over x);(try replace r2:=r2.over x);rw [zaa h'])
 rw [← hFr]
 clear r1 r2 r3
 simp -implicitDefEqProofs only [syms,symx,seval,c54]
 refine zd5 (fun hne=>?_) (fun heq=>?_)
 ·rw [if_neg hne] at hk
  simp -implicitDefEqProofs only [syms,symx,seval,c54]
  exact hk _ (z.upW _ _ (by omega))
 rw [if_pos heq] at hk
 have hMs:h.size≤M:=by omega
 simp -implicitDefEqProofs only [syms,symx,seval,c54,e0.lay,zeP,hvs,zoN,zeu]
 refine zk5 q1 zke ds9q (fun h3 q3 cg3=>?_)
 replace z:=z.stepW cg3 hMs (by omega)
 replace q0:=q0.stepL cg3 hAM
 rw [zaa h3]
 simp -implicitDefEqProofs only [syms,symx,seval,c54]
 rw [hw]
 have htk:(d.clears.take (i+1)).map ClearD.who=(d.clears.take i).map ClearD.who++[r.who]:=by rw [List.take_add_one,hr'];simp
 rw [← htk] at q3
 (rw [hI1];with_reducible refine zae (m:=_) ?_ ⟨i+1,_,rfl,z,⟨rfl,by omega,q0,q3,by rw [hee,zbi hr',if_pos heq]⟩,junk (by kernel_rfl)⟩;omega)
theorem zmH (a:AtomD):a.val.cells.size=11:=rfl
theorem zm9 (a:AtomD):a.cells.length=11:=rfl
theorem znu (a:AtomD):a.cells.all Am.one=true:=rfl
theorem zrU (z0 z1 z2 z3 z4 z5 z6 z7 z8 z9 z10:Value):List.drop 11 [z0,z1,z2,z3,z4,z5,z6,z7,z8,z9,z10]=[]:=rfl
theorem zzA:decide (11≤11)=true:=rfl
theorem znG {d:PolicyD} (h:d.quota < 0∨1000 < d.quota∨d.budget < 1∨1048576 < d.budget∨64 < d.rules.length+d.grants.length):zez d=notE true 4:=by
 unfold zez
 congr 1
 simp only [Bool.or_eq_true,decide_eq_true_eq]
 omega
theorem znm {d:PolicyD} (h:¬ (d.quota < 0∨1000 < d.quota∨d.budget < 1∨1048576 < d.budget∨64 < d.rules.length+d.grants.length)):zez d=notE false 4:=by
 unfold zez
 congr 1
 simp only [Bool.or_eq_false_iff,decide_eq_false_iff_not]
 omega
theorem znJ (d:PolicyD) (p0 p1 p2 p5 p6:Value) (q b:Int) (h:Heap) (hq:d.quota=q) (hb:d.budget=b) (h5:Sl Rep.clause h p5 d.rules) (h6:Sl Rep.grant h p6 d.grants) (hs5:d.rules.length≤1000) (hs6:d.grants.length≤1000) (K:Value→Heap→Prop) (hk:∀ h',Ext h h'→K (.int .i64 (zez d)) h'):Ok Tryz.prog tab ov 55 [zbO p0 p1 p2 p5 p6 q b] h K:=by
 rw [zaa h]
 have z:=Ext.refl h
 have hv5:=zaQ p5
 have hv6:=zaQ p6
 have hl5:=fun (hh:Heap)=>h5.lenA ds26 hh
 have hl6:=fun (hh:Heap)=>h6.lenA ds27 hh
 have hw:IntKind.i64.wrap ((d.rules.length:Int)+(d.grants.length:Int))=((d.rules.length+d.grants.length:Nat):Int):=by rw [wrap_i64 (by omega) (by omega)];omega
 refine Ok.into rfl zvL (zaB N55) rfl (m:=38) rfl ?_
 simp -implicitDefEqProofs only [syms,symx,seval,c55,zax,pol3,pol4,pol5,pol6,hv5,hv6,hl5,hl6,hw]
 repeat' ((with_reducible refine zaE (fun _=>?_) (fun _=>?_)) <;> simp -implicitDefEqProofs only [syms,symx,seval,c55,zax,pol3,pol4,pol5,pol6,hv5,hv6,hl5,hl6,hw])
 all_goals
  refine zbq _ _ _ _ (fun h' f1 x r1=>?_)
  ((skip);replace z:=z.overW x (by (try simp only [lsz]);omega);rw [zaa h'])
  obtain ⟨k1,u1,v1,rfl⟩:=r1.1
  simp -implicitDefEqProofs only [syms,symx,seval,c55]
  refine r1.2 _ _ (Frs.lay _ _ _ _) (fun h' x=>?_)
  ((skip);replace z:=z.overW x (by (try simp only [lsz]);omega);rw [zaa h'])
  first
   |rw [znG (by omega)] at hk
   |rw [znm (by omega)] at hk
  simp -implicitDefEqProofs only [syms,symx,seval,c55]
  exact hk _ (z.upW _ _ (by omega))
theorem zqN (d:PolicyD) (a:AtomD) (p0 p1 p2 p5 p6:Value) (q b:Int) (A B:Nat) (h:Heap) (hsp:SpaceAt 1 h) (hone:(zaw p0 p1 p2 p5 p6 q b).all Am.one=true) (h0:Sl Rep.str h p0 d.principals) (h1:Sl Rep.pred h p1 d.preds) (hs:d.principals.length≤1000) (q0:Holds h A (.row (zaw p0 p1 p2 p5 p6 q b) 29 false)) (q1:Holds h B (.row a.cells 42 false)) (K:Value→Heap→Prop) (hk:∀ h',Ext h h'→K (.int .i64 (zfj d a)) h'):Ok Tryz.prog tab ov 113 [.pointer (some ⟨A,0,none⟩),.pointer (some ⟨B,0,none⟩)] h K:=by
 rw [zaa h]
 have z:=Ext.refl h
 refine Ok.into rfl zr2 (zaB N113) rfl (m:=4) rfl ?_
 simp -implicitDefEqProofs only [syms,symx,seval,c113,q0.lay,q1.lay,zax,↓zbG,zbD,za6,zas,↓zaG,zaD,zar]
 refine zkG d a _ _ _ _ _ _ _ _ (hsp.lay _ _) hone (h0.lay _ _) (h1.lay _ _) hs _ (fun h' x=>?_)
 ((skip);replace z:=z.overW x (by (try simp only [lsz]);omega);rw [zaa h'])
 simp -implicitDefEqProofs only [syms,symx,seval,c113]
 exact hk _ (z.upW _ _ (by omega))
theorem zqG (d:PolicyD) (l:List AtomD) (v:Value) (p0 p1 p2 p5 p6:Value) (q b:Int) (A B:Nat) (h:Heap) (hsp:SpaceAt 1 h) (hone:(zaw p0 p1 p2 p5 p6 q b).all Am.one=true) (h0:Sl Rep.str h p0 d.principals) (h1:Sl Rep.pred h p1 d.preds) (hs:d.principals.length≤1000) (hl:Sl Rep.atom h v l) (hs2:l.length≤1000) (q0:Holds h A (.row (zaw p0 p1 p2 p5 p6 q b) 29 false)) (q1:Holds h B (.row [v] 52 false)) (K:Value→Heap→Prop) (hk:∀ h',Ext h h'→K (.int .i64 (zur d l)) h'):Ok Tryz.prog tab ov 114 [.pointer (some ⟨B,0,none⟩),.pointer (some ⟨A,0,none⟩)] h K:=by
 rw [zaa h]
 have z:=Ext.refl h
 have hva:=zaQ v
 have hlv:=fun (hh:Heap)=>hl.lenA ds52 hh
 obtain ⟨F,hF⟩:∃ F:List AtomD→AtomD→Int,F=fun _ a=>zfj d a:=⟨_,rfl⟩
 have hpe:zur d l=zbX F [] l:=by rw [hF];rfl
 rw [hpe] at hk
 refine Ok.into rfl zr7 (zaB N114) rfl (m:=17) rfl ?_
 simp -implicitDefEqProofs only [syms,symx,seval,c114,q1.lay,hva,hlv]
 obtain ⟨I1,hI1⟩:∃ I:Nat→Env→Heap→Prop,I=(fun n e h'=>∃ (i:Nat) (h1:Heap),h'=h1.lay [] h1.low∧Ext h h1∧(n=l.length - i∧i≤l.length∧Holds h1 A (.row (zaw p0 p1 p2 p5 p6 q b) 29 false)∧zbX F [] l=zbX F (l.take i) (l.drop i))∧∃ J:Nat→Value,e=(J 0::.pointer (some ⟨A,0,none⟩)::jr J 2 4 (v::.int .i64 l.length::.int .i64 i::jr J 9 10 ([])))):=⟨_,rfl⟩
 refine zaI I1 _ (by rw [hI1];exact ⟨0,_,rfl,z,⟨rfl,by omega,q0,rfl⟩,junk (by kernel_rfl)⟩) ?_
 intro n e h' hin
 rw [hI1] at hin
 obtain ⟨i,h1',rfl,z,hinv,J,rfl⟩:=hin
 clear q0
 obtain ⟨rfl,hi,q0,hee⟩:=hinv
 have hw:IntKind.i64.wrap ((i:Int)+1)=((i+1:Nat):Int):=by rw [wrap_i64 (by omega) (by omega)];omega
 simp -implicitDefEqProofs only [syms,symx,seval,c114]
 refine zaE (fun hlt=>?_) (fun hlt=>?_)
 rotate_left
 ·rw [hee,zdB (by omega)] at hk
  simp -implicitDefEqProofs only [syms,symx,seval,c114]
  exact hk _ (z.upW _ _ (by omega))
 obtain ⟨r,hr,hr'⟩:=za5 (l:=l) (i:=i) (by omega)
 rw [hee,zbi hr'] at hk
 have hFr:F (l.take i) r=zfj d r:=by rw [hF]
 simp -implicitDefEqProofs only [syms,symx,seval,c114,hva]
 repeat' ((first|with_reducible_and_instances refine zgu (hl.mono z.inc) ds52 sz42 (by omega) hr (fun p hp=>?_)|with_reducible_and_instances refine lda hp ag42 sz42 ?_) <;> simp -implicitDefEqProofs only [syms,symx,seval,c114,hva])
 clear hp
 simp -implicitDefEqProofs only [syms,symx,seval,c114,zbI,zaX,List.all_cons,List.all_nil,Am.one,Bool.and_true,Bool.true_and,Bool.and_self,List.set_cons_zero,List.set_cons_succ,st4,st3,st9,st39,st42,zmH,zm9,znu,zrU,zzA,List.append_nil,if_true,q0.lay,zax,↓zbG,zbD,za6,zas,↓zaG,zaD,zar]
 refine zkG d r _ _ _ _ _ _ _ _ ((hsp.ext z).lay _ _) hone ((h0.mono z.inc).lay _ _) ((h1.mono z.inc).lay _ _) hs _ (fun h' x=>?_)
 ((skip);replace z:=z.overW x (by (try simp only [lsz]);omega);(try replace q0:=q0.over x);rw [zaa h'])
 rw [← hFr]
 simp -implicitDefEqProofs only [syms,symx,seval,c114]
 refine zd5 (fun hne=>?_) (fun heq=>?_)
 ·rw [if_neg hne] at hk
  simp -implicitDefEqProofs only [syms,symx,seval,c114]
  exact hk _ (z.upW _ _ (by omega))
 rw [if_pos heq] at hk
 simp -implicitDefEqProofs only [syms,symx,seval,c114]
 rw [hw]
 (rw [hI1];with_reducible refine zae (m:=_) ?_ ⟨i+1,_,rfl,z,⟨rfl,by omega,q0,by rw [hee,zbi hr',if_pos heq]⟩,junk (by kernel_rfl)⟩;omega)
theorem zkp (d:PolicyD) (a:AtomD) (l:List AtomD) (v:Value) (p0 p1 p2 p5 p6:Value) (q b:Int) (h:Heap) (hsp:SpaceAt 1 h) (hone:(zaw p0 p1 p2 p5 p6 q b).all Am.one=true) (h0:Sl Rep.str h p0 d.principals) (h1:Sl Rep.pred h p1 d.preds) (hs:d.principals.length≤1000) (hl:Sl Rep.atom h v l) (hs2:l.length≤1000) (K:Value→Heap→Prop) (hk:∀ h',Ext h h'→K (.int .i64 (zdU d a l)) h'):Ok Tryz.prog tab ov 85 [zbO p0 p1 p2 p5 p6 q b,a.val,v] h K:=by
 rw [zaa h]
 have z:=Ext.refl h
 have hva:=zaQ v
 have hlv:=fun (hh:Heap)=>hl.lenA ds52 hh
 obtain ⟨av,nv,cv,rfl⟩:=zd3 hl
 refine Ok.into rfl zwa (zaB N85) rfl (m:=12) rfl ?_
 simp -implicitDefEqProofs only [syms,symx,seval,c85,zax,zas,hva,hlv]
 rw [zcc]
 simp -implicitDefEqProofs only [syms,symx,seval,c85,hva,hlv]
 refine zbq _ _ _ _ (fun h' f1 x r1=>?_)
 have q0:=Holds.top (i:=0) x rfl
 have q1:=Holds.top (i:=1) x rfl
 have q2:=Holds.top (i:=2) x rfl
 ((skip);replace z:=z.overW x (by (try simp only [lsz]);omega);rw [zaa h'])
 obtain ⟨A0,hA0⟩:∃ A0,A0=h.size+0:=⟨_,rfl⟩
 rw [← hA0] at q0
 rw [← hA0]
 obtain ⟨A1,hA1⟩:∃ A1,A1=h.size+1:=⟨_,rfl⟩
 rw [← hA1] at q1
 rw [← hA1]
 obtain ⟨A2,hA2⟩:∃ A2,A2=h.size+2:=⟨_,rfl⟩
 rw [← hA2] at q2
 rw [← hA2]
 have r0:RuleF h' (.func (.func 113) ⟨[]⟩ ⟨[.pointer (some ⟨A0,0,none⟩),.pointer (some ⟨A1,0,none⟩)]⟩) (zfj d a):=⟨⟨_,_,_,rfl⟩,fun hc K2 y hk2=>by
  rw [zbQ]
  exact zqN d a _ _ _ _ _ _ _ A0 A1 hc (Holds.frs0 (hsp.ext z) y) hone ((h0.mono z.inc).mono y.all) ((h1.mono z.inc).mono y.all) hs (Holds.frs0 q0 y) (Holds.frs0 q1 y) K2 hk2⟩
 have r2:RuleF h' (.func (.func 114) ⟨[]⟩ ⟨[.pointer (some ⟨A2,0,none⟩),.pointer (some ⟨A0,0,none⟩)]⟩) (zur d l):=⟨⟨_,_,_,rfl⟩,fun hc K2 y hk2=>by
  rw [zbQ]
  exact zqG d l _ _ _ _ _ _ _ _ A0 A2 hc (Holds.frs0 (hsp.ext z) y) hone ((h0.mono z.inc).mono y.all) ((h1.mono z.inc).mono y.all) hs ((hl.mono z.inc).mono y.all) hs2 (Holds.frs0 q0 y) (Holds.frs0 q2 y) K2 hk2⟩
 obtain ⟨k1,u1,v1,rfl⟩:=r1.1
 simp -implicitDefEqProofs only [syms,symx,seval,c85]
 refine zcg [.func (.func 113) ⟨[]⟩ ⟨[.pointer (some ⟨A0,0,none⟩),.pointer (some ⟨A1,0,none⟩)]⟩,.func k1 u1 v1,.func (.func 114) ⟨[]⟩ ⟨[.pointer (some ⟨A2,0,none⟩),.pointer (some ⟨A0,0,none⟩)]⟩] [zfj d a,notE (decide (6 < l.length)) 4,zur d l] _ _ (zfM (i:=0) rfl rfl rfl (by simp)) (by simp) rfl (fun i fv e h1 h2=>?_) _ (fun h' x=>?_)
 ·match i,h1,h2 with
  |0,h1,h2=>cases h1;cases h2;exact r0.lay _ _
  |1,h1,h2 =>
   cases h1;cases h2
   have e:decide (6 < l.length)=decide ((l.length:Int) > 6):=by rw [Bool.eq_iff_iff,decide_eq_true_iff,decide_eq_true_iff];omega
   rw [e]
   exact r1.lay _ _
  |2,h1,h2=>cases h1;cases h2;exact r2.lay _ _
 ((skip);replace z:=z.overW x (by (try simp only [lsz]);omega);(try replace q0:=q0.over x);(try replace q1:=q1.over x);(try replace q2:=q2.over x);(try replace r1:=r1.over x);rw [zaa h'])
 simp -implicitDefEqProofs only [syms,symx,seval,c85]
 exact hk _ (z.upW _ _ (by omega))
theorem znS (a:AtomD) (v:Value):(a.cells++[v])[11]? = some v:=rfl
theorem zCL (a:AtomD) (v:Value):cut (a.cells++[v]) 0 11=some a.cells:=rfl
theorem zFk:zdP tab 23 23=true:=by kernel_rfl
theorem zme (l:List ByteArray) (v fv:Value) (pr:ByteArray→Bool) (h:Heap) (hl:Sl Rep.str h v l) (hs:l.length≤1000) (hpf:∀ (x:ByteArray) (hc:Heap) (K:Value→Heap→Prop),Ext h hc→(∀ h',Ext hc h'→K (.bool (pr x)) h')→zg4 Tryz.prog tab ov [.string x] hc K fv) (K:Value→Heap→Prop)
 (hk:∀ h',Ext h h'→K (.int .i64 (idxP pr l)) h'):Ok Tryz.prog tab ov 138 [v,fv] h K:=by
 rw [zaa h]
 have z:=Ext.refl h
 have hva:=zaQ v
 have hvs:∀ (s:ByteArray) (h:Heap) (K:Value→Heap→Prop),valE (some (.string s)) h K=K (.string s) h:=fun _ _ _=>rfl
 have hlv:=fun (hh:Heap)=>hl.lenA ds23 hh
 refine Ok.into rfl zut (zaB N138) rfl (m:=17) rfl ?_
 simp -implicitDefEqProofs only [syms,symx,seval,c138,hva,hlv]
 obtain ⟨I1,hI1⟩:∃ I:Nat→Env→Heap→Prop,I=(fun n e h'=>∃ (i:Nat) (h1:Heap),h'=h1.lay [] h1.low∧Ext h h1∧(n=l.length - i∧i≤l.length∧∀ x∈l.take i,pr x=false)∧∃ J:Nat→Value,e=(v::fv::jr J 2 5 (.int .i64 l.length::.int .i64 i::jr J 9 10 ([])))):=⟨_,rfl⟩
 refine zaI I1 _ (by rw [hI1];exact ⟨0,_,rfl,z,⟨rfl,by omega,by simp⟩,junk (by kernel_rfl)⟩) ?_
 intro n e h' hin
 rw [hI1] at hin
 obtain ⟨i,h1',rfl,z,hinv,J,rfl⟩:=hin
 obtain ⟨rfl,hi,hall⟩:=hinv
 have hw:IntKind.i64.wrap ((i:Int)+1)=((i+1:Nat):Int):=by rw [wrap_i64 (by omega) (by omega)];omega
 simp -implicitDefEqProofs only [syms,symx,seval,c138]
 refine zaE (fun hlt=>?_) (fun hlt=>?_)
 rotate_left
 ·rw [List.take_of_length_le (by omega)] at hall
  have:=zhW hall
  rw [this] at hk
  simp -implicitDefEqProofs only [syms,symx,seval,c138]
  exact hk _ (z.upW _ _ (by omega))
 obtain ⟨r,hr,hr'⟩:=za5 (l:=l) (i:=i) (by omega)
 simp -implicitDefEqProofs only [syms,symx,seval,c138,hva]
 repeat' ((first|with_reducible_and_instances refine ziC (hl.mono z.inc) ds23 sz9 (by omega) hr (fun p hp=>?_)|with_reducible_and_instances refine zcq hp ag9 ?_) <;> simp -implicitDefEqProofs only [syms,symx,seval,c138,hva,hvs])
 refine hpf _ _ _ (z.upW _ _ (by omega)) (fun h' x=>?_)
 ((skip);replace z:=z.overW x (by (try simp only [lsz]);omega);rw [zaa h'])
 clear hp
 cases hx:pr r
 rotate_left
 ·simp -implicitDefEqProofs only [syms,symx,seval,c138]
  have:=zgr hr' hall hx
  rw [this] at hk
  exact hk _ (z.upW _ _ (by omega))
 ·simp -implicitDefEqProofs only [syms,symx,seval,c138]
  rw [hw]
  (rw [hI1];with_reducible refine zae (m:=_) ?_ ⟨i+1,_,rfl,z,⟨rfl,by omega,zb5 (i:=i) (P:=fun x:ByteArray=>pr x=false) hr' hall hx⟩,junk (by kernel_rfl)⟩;omega)
theorem ziS (l:List ByteArray) (v fv:Value) (pr:ByteArray→Bool) (h:Heap) (hl:Sl Rep.str h v l) (hs:l.length≤1000) (hpf:∀ (x:ByteArray) (hc:Heap) (K:Value→Heap→Prop),Ext h hc→(∀ h',Ext hc h'→K (.bool (pr x)) h')→zg4 Tryz.prog tab ov [.string x] hc K fv) (K:Value→Heap→Prop)
 (hk:∀ h',Ext h h'→K (.bool (l.any pr)) h'):Ok Tryz.prog tab ov 116 [v,fv] h K:=by
 refine Ok.into rfl zsa (zaB N116) rfl (m:=7) rfl ?_
 simp -implicitDefEqProofs only [syms,symx,seval,c116]
 refine zme l v fv pr h hl hs hpf _ (fun h' x=>?_)
 simp -implicitDefEqProofs only [syms,symx,seval,c116,zlr]
 refine zvm (fun hh=>?_) (fun hh=>?_)
 all_goals
  simp -implicitDefEqProofs only [syms,symx,seval,c116]
  rw [hh] at hk
  exact hk _ x
theorem zp8 (l:List ByteArray) (s:ByteArray) (w:Value) (C:Nat) (h:Heap) (q:Holds h C (.row [w] 23 false)) (hl:Sl Rep.str h w l) (hs:l.length≤1000) (K:Value→Heap→Prop) (hk:∀ h',Ext h h'→K (.bool (!hasP l s)) h'):Ok Tryz.prog tab ov 117 [.string s,.pointer (some ⟨C,0,none⟩)] h K:=by
 rw [zaa h]
 have z:=Ext.refl h
 have hvw:=zaQ w
 have hvs:∀ (s:ByteArray) (h:Heap) (K:Value→Heap→Prop),valE (some (.string s)) h K=K (.string s) h:=fun _ _ _=>rfl
 refine Ok.into rfl zuq (zaB N117) rfl (m:=6) rfl ?_
 simp -implicitDefEqProofs only [syms,symx,seval,c117,q.lay,hvw,hvs]
 refine zb7 l w s _ (hl.lay _ _) hs _ (fun h' x=>?_)
 ((skip);replace z:=z.overW x (by (try simp only [lsz]);omega);rw [zaa h'])
 simp -implicitDefEqProofs only [syms,symx,seval,c117]
 (with_reducible_and_instances apply zal);(· rfl)
 simp -implicitDefEqProofs only [syms,symx,seval,c117]
 exact hk _ (z.upW _ _ (by omega))
open Classical in
theorem zqL {c:ClauseD} {l m:List ByteArray} (hl:∀ x,x∈l↔zlq c.head x) (hm:∀ x,x∈m↔∃ a∈c.body,zlq a x):zf5 c=notE (l.any fun v => !hasP m v) 9:=by
 unfold zf5
 congr 1
 rw [Bool.eq_iff_iff,decide_eq_true_iff,List.any_eq_true]
 constructor
 ·rintro ⟨x,h1,h2⟩
  refine ⟨x,(hl x).2 h1,?_⟩
  have:hasP m x=false:=Bool.eq_false_iff.2 (fun hh=>by
   obtain ⟨a,ha,hv⟩:=(hm x).1 (hasP_iff.1 hh)
   exact h2 a ha hv)
  rw [this];rfl
 ·rintro ⟨x,h1,h2⟩
  refine ⟨x,(hl x).1 h1,fun a ha hv=>?_⟩
  have:hasP m x=true:=hasP_iff.2 ((hm x).2 ⟨a,ha,hv⟩)
  rw [this] at h2
  simp at h2
theorem zp7 (c:ClauseD) (v:Value) (h:Heap) (hl:Sl Rep.atom h v c.body) (hs:c.body.length≤200) (K:Value→Heap→Prop) (hk:∀ h',Ext h h'→K (.int .i64 (zf5 c)) h'):Ok Tryz.prog tab ov 87 [.agg ⟨c.head.cells++[v]⟩] h K:=by
 rw [zaa h]
 have z:=Ext.refl h
 have hva:=zaQ v
 have hlv:=fun (hh:Heap)=>hl.lenA ds52 hh
 refine Ok.into rfl zwv (zaB N87) rfl (m:=26) rfl ?_
 simp -implicitDefEqProofs only [syms,symx,seval,c87,znS,hva,hlv]
 refine zd8 (fun h' x hq=>?_)
 have q0:=hq 0 _ rfl
 have q1:=hq 1 _ rfl
 clear hq
 (replace z:=z.overW x (by (try simp only [lsz]);omega);rw [zaa h'])
 obtain ⟨A0,hA0⟩:∃ A0,A0=h.size+0:=⟨_,rfl⟩
 rw [← hA0] at q0
 rw [← hA0]
 obtain ⟨C,hC⟩:∃ C,C=h.size+1:=⟨_,rfl⟩
 rw [← hC] at q1
 rw [← hC]
 obtain ⟨I1,hI1⟩:∃ I:Nat→Env→Heap→Prop,I=(fun n e h'=>∃ (i:Nat) (wv:Value) (A:Nat) (have_:List ByteArray) (h1:Heap),h'=h1.lay [] h1.low∧Ext h h1∧(n=c.body.length - i∧i≤c.body.length∧Holds h1 A0 (.row (c.head.cells++[v]) 71 false)∧Holds h1 C (.row [wv] 23 false)∧Ow Rep.str h h1 9 A wv have_∧C < A∧have_.length≤4*i∧(∀ x,x∈have_↔∃ a∈c.body.take i,zlq a x))∧∃ J:Nat→Value,e=(J 0::.pointer (some ⟨A0,0,none⟩)::J 2::.pointer (some ⟨C,0,none⟩)::jr J 4 4 (v::.int .i64 c.body.length::.int .i64 i::jr J 11 16 ([])))):=⟨_,rfl⟩
 refine zaI I1 _ (by rw [hI1];exact ⟨0,.slice none 0 0,C+1,[],_,rfl,z,⟨rfl,by omega,q0,q1,Ow.nil (by omega),by omega,by simp,by simp⟩,junk (by kernel_rfl)⟩) ?_
 intro n e h' hin
 rw [hI1] at hin
 obtain ⟨i,wv,A,have_,h1',rfl,z,hinv,J,rfl⟩:=hin
 clear q0 q1
 obtain ⟨rfl,hi,q0,q1,ow,hCA,hhl,hmem⟩:=hinv
 have hw:IntKind.i64.wrap ((i:Int)+1)=((i+1:Nat):Int):=by rw [wrap_i64 (by omega) (by omega)];omega
 have hvw:=zaQ wv
 simp -implicitDefEqProofs only [syms,symx,seval,c87]
 refine zaE (fun hlt=>?_) (fun hlt=>?_)
 ·obtain ⟨r,hr,hr'⟩:=za5 (l:=c.body) (i:=i) (by omega)
  simp -implicitDefEqProofs only [syms,symx,seval,c87,hva]
  repeat' ((first|with_reducible_and_instances refine zgu (hl.mono z.inc) ds52 sz42 (by omega) hr (fun p hp=>?_)|with_reducible_and_instances refine lda hp ag42 sz42 ?_) <;> simp -implicitDefEqProofs only [syms,symx,seval,c87,hva])
  clear hp
  simp -implicitDefEqProofs only [syms,symx,seval,c87,zbI,zaX,List.all_cons,List.all_nil,Am.one,Bool.and_true,Bool.true_and,Bool.and_self,List.set_cons_zero,List.set_cons_succ,st4,st3,st9,st39,st42,zas,zmH,zm9,znu,zrU,zzA,List.append_nil,if_true]
  with_reducible first|refine zbT (by simp only [c87]) (z.upW _ _ (by omega)) ?_
  simp -implicitDefEqProofs only [syms,symx,seval,c87,q1.lay,hvw,↓zaG,zaD,zar]
  refine zpx r _ _ (fun w2 l2 h' x s2 hl2 hm2=>?_)
  (( ((with_reducible refine zaq ?_ ?_ ?_);(· exact (by (try simp only [lsz]);have:=z.size;omega));(·  exact x )) );replace z:=z.overW x (by (try simp only [lsz]);omega);(try replace q0:=q0.over x);(try replace q1:=q1.over x);(try replace ow:=ow.over x);rw [zaa h'])
  have hvw2:=zaQ w2
  simp -implicitDefEqProofs only [syms,symx,seval,c87,hvw2,zcG,zFk]
  have hz:=z.size
  have hlo:=ow.fresh
  have hq1:=q1.lt
  obtain ⟨news,hs1,hsr1⟩:=zlH (A:=A) (r:=Rep.str) (by decide) (s2.lay [] (h'.size+0)) (fun cs y hr=>hr)
  obtain ⟨w3,h3,A3,g1,o3,cg3,g4,g5⟩:=zj5 (t:=23) ds23 zd0 rfl (by decide) (by rw [zad];omega) (ow.mono (Inc.lay _ _ _)) hs1 hsr1 (by omega) (by omega)
  rw [g1]
  have hA3:C < A3:=by
   rcases g4 with e|e
   ·omega
   ·rw [zad] at e;omega
  refine zaZ (A:=A) (by kernel_rfl) (by rw [zad];omega) (by omega) (by simpa only [zat,zad,List.append_nil,List.length_cons,List.length_nil,Nat.add_zero] using cg3) ?_
  replace q0:=q0.stepL cg3 (by omega)
  replace q1:=q1.stepL cg3 (by omega)
  replace z:=(z.upW [] (h'.size+0) (by omega)).step cg3 (by omega)
  clear ow s2
  rw [zaa h3]
  have hone3:Am.one w3=true:=(o3.sl (by decide)).one
  obtain ⟨a3,n3,c3,rfl⟩:=zd3 (o3.sl (by decide))
  simp -implicitDefEqProofs only [syms,symx,seval,c87]
  refine zuG q1 sz23 rfl rfl rfl (fun h4 q4 c4=>?_)
  have hz3:=z.size
  replace q4:Holds h4 C (.row [.slice a3 n3 c3] 23 false):=q4
  refine zaZ (A:=C) (by kernel_rfl) (by rw [zad];omega) (by omega) (by simpa only [zat,zad,List.append_nil,List.length_cons,List.length_nil,Nat.add_zero] using c4) ?_
  replace q0:=q0.stepL c4 (by omega)
  replace o3:=(o3.mono (Inc.lay h3 [] (h3.size+0))).turn (fun _ _ _ _ h=>h) c4 (by omega) q4
  replace z:=(z.upW [] (h3.size+0) (by omega)).step c4 (by omega)
  clear q1
  rw [zaa h4]
  simp -implicitDefEqProofs only [syms,symx,seval,c87]
  ((with_reducible refine ⟨z.grw.lay _ _,?_⟩);(intro _ h' zz x _);(try simp only [zat,List.append_nil] at x);(try replace q0:=q0.over x);(try replace q4:=q4.over x);(try replace o3:=o3.over x);(replace z:=zz);(clear zz);rw [zaa h'])
  simp -implicitDefEqProofs only [syms,symx,seval,c87]
  rw [hw]
  have htk:c.body.take (i+1)=c.body.take i++[r]:=by rw [List.take_add_one,hr'];rfl
  (rw [hI1];with_reducible refine zae (m:=_) ?_ ⟨i+1,.slice a3 n3 c3,A3,have_++l2,_,rfl,z,⟨rfl,by omega,q0,q4,o3,hA3,by rw [List.length_append];omega,fun x=>by rw [List.mem_append,hmem,hm2,htk];simp [or_and_right,exists_or]⟩,junk (by kernel_rfl)⟩;omega)
 ·rw [List.take_of_length_le (by omega)] at hmem
  simp -implicitDefEqProofs only [syms,symx,seval,c87,q0.lay,↓zCL,zaD,zar]
  have sh:=ow.sl (by decide)
  clear ow
  refine zpx c.head _ _ (fun w2 l2 h' x s2 hl2 hm2=>?_)
  (( skip);replace z:=z.overW x (by (try simp only [lsz]);omega);(try replace q1:=q1.over x);(try replace sh:=sh.over x);rw [zaa h'])
  have hvw2:=zaQ w2
  simp -implicitDefEqProofs only [syms,symx,seval,c87,hvw2]
  refine ziS l2 w2 _ (fun v => !hasP have_ v) _ (s2.lay _ _) (by omega) (fun y hc K' xe hK=>by
   rw [zbQ]
   exact zp8 have_ y wv C hc ((q1.on _ _).ext xe) ((sh.lay _ _).mono xe.inc) (by omega) K' hK) _ (fun h' x=>?_)
  (( skip);replace z:=z.overW x (by (try simp only [lsz]);omega);(try replace q1:=q1.over x);(try replace sh:=sh.over x);rw [zaa h'])
  simp -implicitDefEqProofs only [syms,symx,seval,c87]
  refine zbq _ _ _ _ (fun h' f1 x r1=>?_)
  (( skip);replace z:=z.overW x (by (try simp only [lsz]);omega);(try replace q1:=q1.over x);(try replace sh:=sh.over x);rw [zaa h'])
  obtain ⟨k1,u1,v1,rfl⟩:=r1.1
  simp -implicitDefEqProofs only [syms,symx,seval,c87]
  refine r1.2 _ _ (Frs.lay _ _ _ _) (fun h' x=>?_)
  (( skip);replace z:=z.overW x (by (try simp only [lsz]);omega);(try replace q1:=q1.over x);(try replace sh:=sh.over x);rw [zaa h'])
  rw [zqL hm2 hmem] at hk
  simp -implicitDefEqProofs only [syms,symx,seval,c87]
  exact hk _ (z.upW _ _ (by omega))
theorem zCc (a:AtomD) (v:Value):(a.cells++[v])[0]? = some (.string a.says):=rfl
theorem zCC (a:AtomD) (v:Value):(Value.agg ⟨a.cells++[v]⟩).cells.toList=a.cells++[v]:=rfl
theorem zGE (a:AtomD) (v:Value):(Value.agg ⟨a.cells++[v]⟩).cells.size=12:=rfl
theorem rlen (a:AtomD) (v:Value):(a.cells++[v]).length=12:=rfl
theorem rone (a:AtomD) (x:Option Addr) (n c:Nat):(a.cells++[Value.slice x n c]).all Am.one=true:=rfl
theorem zCB (z0 z1 z2 z3 z4 z5 z6 z7 z8 z9 z10 z11:Value):List.drop 12 [z0,z1,z2,z3,z4,z5,z6,z7,z8,z9,z10,z11]=[]:=rfl
theorem rdec:decide (12≤12)=true:=rfl
theorem zCa (a:AtomD) (v:Value):cut (a.cells++[v]) 0 12=some (a.cells++[v]):=rfl
theorem zB8 (h:Heap) (l:List Blk) (w i o:Nat) (v:Value) (hi:i < l.length):za8 tab 71 (.pointer (some ⟨h.size+i,o,none⟩)) v (h.lay l w)=if v.cells.size=12 then zee l[i]? i o v.cells.toList h l w else none:=zfI sz71 h l w i o v hi
theorem zCG (s:ByteArray) (a:AtomD) (v:Value):(Value.agg ⟨.string s::(a.cells++[v])⟩).cells.toList=.string s::(a.cells++[v]):=rfl
theorem zEr (s:ByteArray) (a:AtomD) (v:Value):(Value.agg ⟨.string s::(a.cells++[v])⟩).cells.size=13:=rfl
theorem zCV (s:ByteArray) (a:AtomD) (x:Option Addr) (n c:Nat):(Value.string s::(a.cells++[Value.slice x n c])).all Am.one=true:=rfl
theorem zEl (z0 z1 z2 z3 z4 z5 z6 z7 z8 z9 z10 z11 z12:Value):List.drop 13 [z0,z1,z2,z3,z4,z5,z6,z7,z8,z9,z10,z11,z12]=[]:=rfl
theorem gdec:decide (13≤13)=true:=rfl
theorem glen (s:ByteArray) (a:AtomD) (v:Value):(Value.string s::(a.cells++[v])).length=13:=rfl
theorem zzI (s:ByteArray) (a:AtomD) (v:Value):(Value.string s::(a.cells++[v]))[0]? = some (.string s):=rfl
theorem zzC (s:ByteArray) (a:AtomD) (v:Value):(Value.string s::(a.cells++[v]))[1]? = some (.string a.says):=rfl
theorem zAJ (s:ByteArray) (a:AtomD) (v:Value):(Value.string s::(a.cells++[v]))[12]? = some v:=rfl
theorem gcut (s:ByteArray) (a:AtomD) (v:Value):cut (Value.string s::(a.cells++[v])) 1 11=some a.cells:=rfl
theorem zBX (h:Heap) (l:List Blk) (w i o:Nat) (v:Value) (hi:i < l.length):za8 tab 73 (.pointer (some ⟨h.size+i,o,none⟩)) v (h.lay l w)=if v.cells.size=13 then zee l[i]? i o v.cells.toList h l w else none:=zfI sz73 h l w i o v hi
theorem ztY (d:PolicyD) (c:ClauseD) (v:Value) (p0 p1 p2 p5 p6:Value) (q b:Int) (A B:Nat) (h:Heap) (hsp:SpaceAt 1 h) (hone:(zaw p0 p1 p2 p5 p6 q b).all Am.one=true) (h0:Sl Rep.str h p0 d.principals) (h1:Sl Rep.pred h p1 d.preds) (hs:d.principals.length≤1000) (hl:Sl Rep.atom h v c.body) (hs2:c.body.length≤1000) (q0:Holds h A (.row (zaw p0 p1 p2 p5 p6 q b) 29 false)) (q1:Holds h B (.row (c.head.cells++[v]) 71 false)) (K:Value→Heap→Prop) (hk:∀ h',Ext h h'→K (.int .i64 (zdU d c.head c.body)) h'):Ok Tryz.prog tab ov 84 [.pointer (some ⟨A,0,none⟩),.pointer (some ⟨B,0,none⟩)] h K:=by
 rw [zaa h]
 have z:=Ext.refl h
 have hva:=zaQ v
 refine Ok.into rfl zwq (zaB N84) rfl (m:=7) rfl ?_
 simp -implicitDefEqProofs only [syms,symx,seval,c84,q0.lay,q1.lay,zax,↓zbG,zbD,za6,↓zCL,znS,zaD,zar,hva]
 refine zkp d c.head c.body v _ _ _ _ _ _ _ _ (hsp.lay _ _) hone (h0.lay _ _) (h1.lay _ _) hs (hl.lay _ _) hs2 _ (fun h' x=>?_)
 ((skip);replace z:=z.overW x (by (try simp only [lsz]);omega);rw [zaa h'])
 simp -implicitDefEqProofs only [syms,symx,seval,c84]
 exact hk _ (z.upW _ _ (by omega))
theorem zs3 (c:ClauseD) (v:Value) (B:Nat) (h:Heap) (hl:Sl Rep.atom h v c.body) (hs2:c.body.length≤200) (q1:Holds h B (.row (c.head.cells++[v]) 71 false)) (K:Value→Heap→Prop) (hk:∀ h',Ext h h'→K (.int .i64 (zf5 c)) h'):Ok Tryz.prog tab ov 86 [.pointer (some ⟨B,0,none⟩)] h K:=by
 rw [zaa h]
 have z:=Ext.refl h
 have hvr:∀ (h:Heap) (K:Value→Heap→Prop),valE (some (.agg (c.head.cells++[v]).toArray)) h K=K (.agg ⟨c.head.cells++[v]⟩) h:=fun _ _=>rfl
 refine Ok.into rfl zwg (zaB N86) rfl (m:=3) rfl ?_
 simp -implicitDefEqProofs only [syms,symx,seval,c86,q1.lay,↓zCa,hvr]
 refine zp7 c v _ (hl.lay _ _) hs2 _ (fun h' x=>?_)
 ((skip);replace z:=z.overW x (by (try simp only [lsz]);omega);rw [zaa h'])
 simp -implicitDefEqProofs only [syms,symx,seval,c86]
 exact hk _ (z.upW _ _ (by omega))
theorem zua (d:PolicyD) (g:GrantD) (v:Value) (p0 p1 p2 p5 p6:Value) (q b:Int) (A B:Nat) (h:Heap) (hsp:SpaceAt 1 h) (hone:(zaw p0 p1 p2 p5 p6 q b).all Am.one=true) (h0:Sl Rep.str h p0 d.principals) (h1:Sl Rep.pred h p1 d.preds) (hs:d.principals.length≤1000) (hl:Sl Rep.atom h v g.body) (hs2:g.body.length≤1000) (q0:Holds h A (.row (zaw p0 p1 p2 p5 p6 q b) 29 false)) (q1:Holds h B (.row (.string g.to::(g.head.cells++[v])) 73 false)) (K:Value→Heap→Prop) (hk:∀ h',Ext h h'→K (.int .i64 (zdU d g.head g.body)) h'):Ok Tryz.prog tab ov 88 [.pointer (some ⟨A,0,none⟩),.pointer (some ⟨B,0,none⟩)] h K:=by
 rw [zaa h]
 have z:=Ext.refl h
 have hva:=zaQ v
 refine Ok.into rfl zzl (zaB N88) rfl (m:=7) rfl ?_
 simp -implicitDefEqProofs only [syms,symx,seval,c88,q0.lay,q1.lay,zax,↓zbG,zbD,za6,↓gcut,zAJ,znS,zaD,zar,hva]
 refine zkp d g.head g.body v _ _ _ _ _ _ _ _ (hsp.lay _ _) hone (h0.lay _ _) (h1.lay _ _) hs (hl.lay _ _) hs2 _ (fun h' x=>?_)
 ((skip);replace z:=z.overW x (by (try simp only [lsz]);omega);rw [zaa h'])
 simp -implicitDefEqProofs only [syms,symx,seval,c88]
 exact hk _ (z.upW _ _ (by omega))
theorem zp1 (d:PolicyD):zm0 d=if zbX (fun _ c=>zzc d c) [] d.rules=0 then zbX (fun _ g=>zrQ d g) [] d.grants else zbX (fun _ c=>zzc d c) [] d.rules:=by
 unfold zm0
 rw [zen,zen,zrr]
 split
 ·split
  ·rename_i h;exact h.symm
  ·rfl
 ·rfl
theorem ztP (d:PolicyD) (p0 p1 p2 p5 p6:Value) (q b:Int) (h:Heap) (hsp:SpaceAt 1 h) (hone:(zaw p0 p1 p2 p5 p6 q b).all Am.one=true) (h0:Sl Rep.str h p0 d.principals) (h1:Sl Rep.pred h p1 d.preds) (hs:d.principals.length≤1000) (h5:Sl Rep.clause h p5 d.rules) (hs5:d.rules.length≤1000) (hb5:∀ r∈d.rules,r.body.length≤200) (h6:Sl Rep.grant h p6 d.grants) (hs6:d.grants.length≤1000) (hb6:∀ g∈d.grants,g.body.length≤200) (K:Value→Heap→Prop) (hk:∀ h',Ext h h'→K (.int .i64 (zm0 d)) h'):Ok Tryz.prog tab ov 56 [zbO p0 p1 p2 p5 p6 q b] h K:=by
 rw [zaa h]
 have z:=Ext.refl h
 have hv5:=zaQ p5
 have hv6:=zaQ p6
 have hvs:∀ (s:ByteArray) (h:Heap) (K:Value→Heap→Prop),valE (some (.string s)) h K=K (.string s) h:=fun _ _ _=>rfl
 have hl5:=fun (hh:Heap)=>h5.lenA ds26 hh
 have hl6:=fun (hh:Heap)=>h6.lenA ds27 hh
 rw [zp1] at hk
 obtain ⟨F,hF⟩:∃ F:List ClauseD→ClauseD→Int,F=fun _ c=>zzc d c:=⟨_,rfl⟩
 obtain ⟨E,hE⟩:∃ E:List GrantD→GrantD→Int,E=fun _ g=>zrQ d g:=⟨_,rfl⟩
 rw [← hF,← hE] at hk
 refine Ok.into rfl zwo (zaB N56) rfl (m:=50) rfl ?_
 simp -implicitDefEqProofs only [syms,symx,seval,c56,zax,pol5,hv5,hl5]
 refine zd8 (fun h' x hq=>?_)
 have q0:=hq 0 _ rfl
 clear hq
 (replace z:=z.overW x (by (try simp only [lsz]);omega);rw [zaa h'])
 obtain ⟨A0,hA0⟩:∃ A0,A0=h.size+0:=⟨_,rfl⟩
 rw [← hA0] at q0
 rw [← hA0]
 obtain ⟨I1,hI1⟩:∃ I:Nat→Env→Heap→Prop,I=(fun n e h'=>∃ (i:Nat) (h1:Heap),h'=h1.lay [] h1.low∧Ext h h1∧(n=d.rules.length - i∧i≤d.rules.length∧Holds h1 A0 (.row (zaw p0 p1 p2 p5 p6 q b) 29 false)∧zbX F [] d.rules=zbX F (d.rules.take i) (d.rules.drop i))∧∃ J:Nat→Value,e=(J 0::.pointer (some ⟨A0,0,none⟩)::jr J 2 8 (p5::.int .i64 d.rules.length::.int .i64 i::jr J 13 38 ([])))):=⟨_,rfl⟩
 refine zaI I1 _ (by rw [hI1];exact ⟨0,_,rfl,z,⟨rfl,by omega,q0,rfl⟩,junk (by kernel_rfl)⟩) ?_
 intro n e h' hin
 rw [hI1] at hin
 obtain ⟨i,h1',rfl,z,hinv,J,rfl⟩:=hin
 clear q0
 obtain ⟨rfl,hi,q0,hee⟩:=hinv
 have hw:IntKind.i64.wrap ((i:Int)+1)=((i+1:Nat):Int):=by rw [wrap_i64 (by omega) (by omega)];omega
 simp -implicitDefEqProofs only [syms,symx,seval,c56]
 refine zaE (fun hlt=>?_) (fun hlt=>?_)
 ·obtain ⟨r,hr,hr'⟩:=za5 (l:=d.rules) (i:=i) (by omega)
  rw [hee,zbi hr'] at hk
  have hFr:F (d.rules.take i) r=zbh [zdU d r.head r.body,zf5 r]:=by rw [hF];rfl
  have hbr:=hb5 r (List.mem_of_getElem? hr')
  simp -implicitDefEqProofs only [syms,symx,seval,c56,hv5]
  refine zr6 (h5.mono z.inc) ds26 sz71 (by omega) hr (fun p v hv hp=>?_)
  obtain ⟨av,nv,cv,rfl⟩:=zd3 hv
  repeat' (first|simp -implicitDefEqProofs only [syms,symx,seval,c56]|with_reducible_and_instances refine ldc hp ag71 sz71 ?_)
  clear hp
  simp -implicitDefEqProofs only [syms,symx,seval,c56,zbI,zaX,List.all_cons,List.all_nil,Am.one,Bool.and_true,Bool.true_and,Bool.and_self,List.set_cons_zero,List.set_cons_succ,st4,st3,st9,st39,st42,zB8,zCC,zGE,rlen,rone,zCB,rdec,List.append_nil,if_true]
  have hbk:∀ (bs:List Blk) (w:Nat) (i:Nat) (b:Blk),bs[i]? = some b→Holds (h1'.lay bs w) (h1'.size+i) b:=fun bs w i b hb=>⟨by rw [zad];have:=(List.getElem?_eq_some_iff.1 hb).1;omega,by rw [zbj];exact hb⟩
  refine zcg [.func (.func 84) ⟨[]⟩ ⟨[.pointer (some ⟨A0,0,none⟩),.pointer (some ⟨h1'.size+0,0,none⟩)]⟩,.func (.func 86) ⟨[]⟩ ⟨[.pointer (some ⟨h1'.size+0,0,none⟩)]⟩] [zdU d r.head r.body,zf5 r] _ _ (zfM (i:=1) rfl rfl rfl (by simp)) (by simp) rfl (fun i fv e g1 g2=>?_) _ (fun h' x=>?_)
  ·match i,g1,g2 with
   |0,g1,g2 =>
    cases g1;cases g2
    exact ⟨⟨_,_,_,rfl⟩,fun hc K2 y hk2=>by
     rw [zbQ]
     exact ztY d r _ _ _ _ _ _ _ _ A0 _ hc (Holds.frs0 ((hsp.ext z).lay _ _) y) hone (((h0.mono z.inc).lay _ _).mono y.all) (((h1.mono z.inc).lay _ _).mono y.all) hs ((hv.lay _ _).mono y.all) (by omega) (Holds.frs0 (q0.on _ _) y) (Holds.frs0 (hbk _ _ 0 _ rfl) y) K2 hk2⟩
   |1,g1,g2 =>
    cases g1;cases g2
    exact ⟨⟨_,_,_,rfl⟩,fun hc K2 y hk2=>by
     rw [zbQ]
     exact zs3 r _ _ hc ((hv.lay _ _).mono y.all) hbr (Holds.frs0 (hbk _ _ 0 _ rfl) y) K2 hk2⟩
  (( skip);replace z:=z.overW x (by (try simp only [lsz]);omega);(try replace q0:=q0.over x);rw [zaa h'])
  rw [← hFr]
  clear hbk
  simp -implicitDefEqProofs only [syms,symx,seval,c56]
  refine zd5 (fun hne=>?_) (fun heq=>?_)
  ·rw [if_neg hne,if_neg hne] at hk
   simp -implicitDefEqProofs only [syms,symx,seval,c56]
   exact hk _ (z.upW _ _ (by omega))
  rw [if_pos heq] at hk
  simp -implicitDefEqProofs only [syms,symx,seval,c56]
  rw [hw]
  (rw [hI1];with_reducible refine zae (m:=_) ?_ ⟨i+1,_,rfl,z,⟨rfl,by omega,q0,by rw [hee,zbi hr',if_pos heq]⟩,junk (by kernel_rfl)⟩;omega)
 rw [hee,zdB (by omega),if_pos rfl] at hk
 clear hee hw hi hlt
 simp -implicitDefEqProofs only [syms,symx,seval,c56,q0.lay,zax,pol6,hv6,hl6]
 obtain ⟨I2,hI2⟩:∃ I:Nat→Env→Heap→Prop,I=(fun n e h'=>∃ (i:Nat) (h1:Heap),h'=h1.lay [] h1.low∧Ext h h1∧(n=d.grants.length - i∧i≤d.grants.length∧Holds h1 A0 (.row (zaw p0 p1 p2 p5 p6 q b) 29 false)∧zbX E [] d.grants=zbX E (d.grants.take i) (d.grants.drop i))∧∃ J:Nat→Value,e=(J 0::.pointer (some ⟨A0,0,none⟩)::jr J 2 23 (p6::.int .i64 d.grants.length::.int .i64 i::jr J 28 23 ([])))):=⟨_,rfl⟩
 refine zaI I2 _ (by rw [hI2];exact ⟨0,_,rfl,z,⟨rfl,by omega,q0,rfl⟩,junk (by kernel_rfl)⟩) ?_
 intro n e h' hin
 rw [hI2] at hin
 obtain ⟨i,h1',rfl,z,hinv,J,rfl⟩:=hin
 clear q0
 obtain ⟨rfl,hi,q0,hee⟩:=hinv
 have hw:IntKind.i64.wrap ((i:Int)+1)=((i+1:Nat):Int):=by rw [wrap_i64 (by omega) (by omega)];omega
 simp -implicitDefEqProofs only [syms,symx,seval,c56]
 refine zaE (fun hlt=>?_) (fun hlt=>?_)
 ·obtain ⟨r,hr,hr'⟩:=za5 (l:=d.grants) (i:=i) (by omega)
  rw [hee,zbi hr'] at hk
  have hFr:E (d.grants.take i) r=zbh [notE (!hasP d.principals r.to) 6,notE (decide (r.to=r.head.says)) 11,zdU d r.head r.body]:=by rw [hE];rfl
  have hbr:=hb6 r (List.mem_of_getElem? hr')
  simp -implicitDefEqProofs only [syms,symx,seval,c56,hv6]
  refine zuT (h6.mono z.inc) ds27 sz73 (by omega) hr (fun p v hv hp=>?_)
  obtain ⟨av,nv,cv,rfl⟩:=zd3 hv
  repeat' (first|simp -implicitDefEqProofs only [syms,symx,seval,c56]|with_reducible_and_instances refine ldG hp ag73 sz73 ?_)
  clear hp
  simp -implicitDefEqProofs only [syms,symx,seval,c56,zbI,zaX,List.all_cons,List.all_nil,Am.one,Bool.and_true,Bool.true_and,Bool.and_self,List.set_cons_zero,List.set_cons_succ,st4,st3,st9,st39,st42,zBX,zCG,zEr,glen,zCV,zEl,gdec,rlen,rone,zCB,List.append_nil,if_true]
  refine zd8 (fun h' x hq=>?_)
  have e0:=hq 0 _ rfl
  clear hq
  (replace z:=z.overW x (by (try simp only [lsz]);omega);(try replace q0:=q0.over x);(try replace hv:=hv.over x);rw [zaa h'])
  obtain ⟨E0,hE0⟩:∃ E0,E0=h1'.size+0:=⟨_,rfl⟩
  rw [← hE0] at e0
  rw [← hE0]
  with_reducible first|refine zbT (by simp only [c56]) (z.upW _ _ (by omega)) ?_
  simp -implicitDefEqProofs only [syms,symx,seval,c56,q0.lay,e0.lay,zzI,zzC,hvs,zax,↓zbG,zbD,za6]
  refine zcB d.principals r.to _ _ _ _ _ _ _ _ ((h0.mono z.inc).lay _ _) hs _ (fun h' x=>?_)
  (( ((with_reducible refine zaq ?_ ?_ ?_);(· exact (by (try simp only [lsz]);have:=z.size;omega));(·  exact x )) );replace z:=z.overW x (by (try simp only [lsz]);omega);(try replace q0:=q0.over x);(try replace e0:=e0.over x);(try replace hv:=hv.over x);rw [zaa h'])
  simp -implicitDefEqProofs only [syms,symx,seval,c56]
  (with_reducible_and_instances apply zal);(· rfl)
  simp -implicitDefEqProofs only [syms,symx,seval,c56]
  refine zbq _ _ _ _ (fun h' f1 x r1=>?_)
  (( ((with_reducible refine zaq ?_ ?_ ?_);(· exact (by (try simp only [lsz]);have:=z.size;omega));(·  exact x )) );replace z:=z.overW x (by (try simp only [lsz]);omega);(try replace q0:=q0.over x);(try replace e0:=e0.over x);(try replace hv:=hv.over x);rw [zaa h'])
  simp -implicitDefEqProofs only [syms,symx,seval,c56,e0.lay,zzI,zzC,zCc,zhm,hvs]
  rw [zcc]
  simp -implicitDefEqProofs only [syms,symx,seval,c56]
  refine zbq _ _ _ _ (fun h' f2 x r2=>?_)
  (( ((with_reducible refine zaq ?_ ?_ ?_);(· exact (by (try simp only [lsz]);have:=z.size;omega));(·  exact x )) );replace z:=z.overW x (by (try simp only [lsz]);omega);(try replace q0:=q0.over x);(try replace e0:=e0.over x);(try replace hv:=hv.over x);(try replace r1:=r1.over x);rw [zaa h'])
  have r3:RuleF h' (.func (.func 88) ⟨[]⟩ ⟨[.pointer (some ⟨A0,0,none⟩),.pointer (some ⟨E0,0,none⟩)]⟩) (zdU d r.head r.body):=⟨⟨_,_,_,rfl⟩,fun hc K2 y hk2=>by
   rw [zbQ]
   exact zua d r _ _ _ _ _ _ _ _ A0 E0 hc (Holds.frs0 (hsp.ext z) y) hone ((h0.mono z.inc).mono y.all) ((h1.mono z.inc).mono y.all) hs (hv.mono y.all) (by omega) (Holds.frs0 q0 y) (Holds.frs0 e0 y) K2 hk2⟩
  obtain ⟨k1,u1,v1,rfl⟩:=r1.1
  obtain ⟨k2,u2,v2,rfl⟩:=r2.1
  simp -implicitDefEqProofs only [syms,symx,seval,c56]
  refine zcm (by have:=z.size;omega) (by omega) ?_
  simp -implicitDefEqProofs only [syms,symx,seval,c56]
  refine zcg [.func k1 u1 v1,.func k2 u2 v2,.func (.func 88) ⟨[]⟩ ⟨[.pointer (some ⟨A0,0,none⟩),.pointer (some ⟨E0,0,none⟩)]⟩] [notE (!hasP d.principals r.to) 6,notE (decide (r.to=r.head.says)) 11,zdU d r.head r.body] _ _ (zfM (i:=0) rfl rfl rfl (by simp)) (by simp) rfl (fun i fv e g1 g2=>?_) _ (fun h' x=>?_)
  ·match i,g1,g2 with
   |0,g1,g2=>cases g1;cases g2;exact r1.lay _ _
   |1,g1,g2=>cases g1;cases g2;exact r2.lay _ _
   |2,g1,g2=>cases g1;cases g2;exact r3.lay _ _
  (( ((with_reducible refine zaq ?_ ?_ ?_);(· exact (by (try simp only [lsz]);have:=z.size;omega));(·  exact x )) );replace z:=z.overW x (by (try simp only [lsz]);omega);(try replace q0:=q0.over x);(try replace e0:=e0.over x);(try replace hv:=hv.over x);(try replace r1:=r1.over x);(try replace r2:=r2.over x);rw [zaa h'])
  rw [← hFr]
  clear r1 r2 r3
  simp -implicitDefEqProofs only [syms,symx,seval,c56]
  ((with_reducible refine ⟨z.grw.lay _ _,?_⟩);(intro _ h' zz x _);(try simp only [zat,List.append_nil] at x);(try replace q0:=q0.over x);(replace z:=zz);(clear zz);rw [zaa h'])
  simp -implicitDefEqProofs only [syms,symx,seval,c56]
  refine zd5 (fun hne=>?_) (fun heq=>?_)
  ·rw [if_neg hne] at hk
   simp -implicitDefEqProofs only [syms,symx,seval,c56]
   exact hk _ (z.upW _ _ (by omega))
  rw [if_pos heq] at hk
  simp -implicitDefEqProofs only [syms,symx,seval,c56]
  rw [hw]
  (rw [hI2];with_reducible refine zae (m:=_) ?_ ⟨i+1,_,rfl,z,⟨rfl,by omega,q0,by rw [hee,zbi hr',if_pos heq]⟩,junk (by kernel_rfl)⟩;omega)
 ·rw [hee,zdB (by omega)] at hk
  simp -implicitDefEqProofs only [syms,symx,seval,c56]
  exact hk _ (z.upW _ _ (by omega))
structure PolN (d:PolicyD):Prop where
 p:d.principals.length≤1000
 c:d.clears.length≤1000
 r:d.rules.length≤1000
 rb:∀ r∈d.rules,r.body.length≤200
 g:d.grants.length≤1000
 gb:∀ g∈d.grants,g.body.length≤200
theorem zuc (d:PolicyD) (p0 p1 p2 p5 p6:Value) (q b:Int) (h:Heap) (hsp:SpaceAt 1 h) (hone:(zaw p0 p1 p2 p5 p6 q b).all Am.one=true) (hd:PolH h p0 p1 p2 p5 p6 d) (hq:d.quota=q) (hb:d.budget=b) (hn:PolN d) (K:Value→Heap→Prop) (hk:∀ h',Ext h h'→K (.int .i64 (ziU d)) h'):Ok Tryz.prog tab ov 29 [zbO p0 p1 p2 p5 p6 q b] h K:=by
 rw [zaa h]
 have z:=Ext.refl h
 obtain ⟨es,hes⟩:∃ es,es=[ziY d.principals,znc d.preds,zk6 d.principals d.clears,zez d,zm0 d]:=⟨_,rfl⟩
 obtain ⟨fvs,hfv⟩:∃ fvs:List Value,fvs=[.func (.func 52) ⟨[]⟩ ⟨[]⟩,.func (.func 53) ⟨[]⟩ ⟨[]⟩,.func (.func 54) ⟨[]⟩ ⟨[]⟩,.func (.func 55) ⟨[]⟩ ⟨[]⟩,.func (.func 56) ⟨[]⟩ ⟨[]⟩]:=⟨_,rfl⟩
 have hce:ziU d=zbh es:=by rw [hes];rfl
 rw [hce] at hk
 have hrun:∀ (i:Nat) fv e,fvs[i]? = some fv→es[i]? = some e→∀ hc (K:Value→Heap→Prop),Ext h hc→(∀ h',Ext hc h'→K (.int .i64 e) h')→zg4 Tryz.prog tab ov [zbO p0 p1 p2 p5 p6 q b] hc K fv:=by
  intro i fv e h1 h2 hc K2 y hk2
  rw [hfv] at h1
  rw [hes] at h2
  have hd2:=hd.mono y.inc
  match i,h1,h2 with
  |0,h1,h2=>cases h1;cases h2;rw [za3];exact ztb d.principals _ _ _ _ _ _ _ hc (hsp.ext y) hd2.s0 K2 hk2
  |1,h1,h2=>cases h1;cases h2;rw [za3];exact zt3 d.preds _ _ _ _ _ _ _ hc (hsp.ext y) hd2.s1 K2 hk2
  |2,h1,h2=>cases h1;cases h2;rw [za3];exact zrG d _ _ _ _ _ _ _ hc hone hd2.s0 hd2.s2 hn.p hn.c K2 hk2
  |3,h1,h2=>cases h1;cases h2;rw [za3];exact znJ d _ _ _ _ _ _ _ hc hq hb hd2.s5 hd2.s6 hn.r hn.g K2 hk2
  |4,h1,h2=>cases h1;cases h2;rw [za3];exact ztP d _ _ _ _ _ _ _ hc (hsp.ext y) hone hd2.s0 hd2.s1 hn.p hd2.s5 hn.r hn.rb hd2.s6 hn.g hn.gb K2 hk2
 have hfl:fvs.length=5:=by rw [hfv];rfl
 have hel:es.length=5:=by rw [hes];rfl
 refine Ok.into rfl zvw (zaB N29) rfl (m:=20) rfl ?_
 simp -implicitDefEqProofs only [syms,symx,seval,c29,zax]
 refine zd8 (fun h' x hq=>?_)
 have q0:=hq 0 _ rfl
 have q1:=hq 1 _ rfl
 clear hq
 (replace z:=z.overW x (by (try simp only [lsz]);omega);rw [zaa h'])
 obtain ⟨A0,hA0⟩:∃ A0,A0=h.size+0:=⟨_,rfl⟩
 rw [← hA0] at q0
 rw [← hA0]
 obtain ⟨A1,hA1⟩:∃ A1,A1=h.size+1:=⟨_,rfl⟩
 rw [← hA1] at q1
 rw [← hA1]
 have sf:Sl Rep.fnv h' (.slice (some ⟨A1,0,none⟩) 5 5) fvs:=by
  refine .inr ⟨A1,0,5,_,_,_,by rw [hfl],by rw [hfl];unfold maxLen;omega,.inl ⟨by unfold G;omega,by omega⟩,q1.lt,q1.get,fun j x hx=>⟨[x],?_,rfl,?_⟩⟩
  ·rw [hfv] at hx
   match j,hx with
   |0,hx=>cases hx;rfl
   |1,hx=>cases hx;rfl
   |2,hx=>cases hx;rfl
   |3,hx=>cases hx;rfl
   |4,hx=>cases hx;rfl
  ·rw [hfv] at hx
   match j,hx with
   |0,hx=>cases hx;rfl
   |1,hx=>cases hx;rfl
   |2,hx=>cases hx;rfl
   |3,hx=>cases hx;rfl
   |4,hx=>cases hx;rfl
 clear q1
 obtain ⟨sv,hsv⟩:∃ sv,sv=Value.slice (some ⟨A1,0,none⟩) 5 5:=⟨_,rfl⟩
 rw [← hsv] at sf ⊢
 obtain ⟨I1,hI1⟩:∃ I:Nat→Env→Heap→Prop,I=(fun n e h'=>∃ (i:Nat) (h1:Heap),h'=h1.lay [] h1.low∧Ext h h1∧(n=5 - i∧i≤5∧Holds h1 A0 (.row (zaw p0 p1 p2 p5 p6 q b) 29 false)∧Sl Rep.fnv h1 sv fvs∧(∀ x∈es.take i,x=0))∧∃ J:Nat→Value,e=(J 0::.pointer (some ⟨A0,0,none⟩)::jr J 2 6 (sv::.int .i64 5::.int .i64 i::jr J 11 10 ([])))):=⟨_,rfl⟩
 refine zaI I1 _ (by rw [hI1];exact ⟨0,_,rfl,z,⟨rfl,by omega,q0,sf,by simp⟩,junk (by kernel_rfl)⟩) ?_
 intro n e h' hin
 rw [hI1] at hin
 obtain ⟨i,h1',rfl,z,hinv,J,rfl⟩:=hin
 clear q0 sf
 obtain ⟨rfl,hi,q0,sf,hall⟩:=hinv
 have hw:IntKind.i64.wrap ((i:Int)+1)=((i+1:Nat):Int):=by rw [wrap_i64 (by omega) (by omega)];omega
 simp -implicitDefEqProofs only [syms,symx,seval,c29]
 refine zaE (fun hlt=>?_) (fun hlt=>?_)
 rotate_left
 ·rw [List.take_of_length_le (by omega)] at hall
  rw [firstE_zero.2 hall] at hk
  simp -implicitDefEqProofs only [syms,symx,seval,c29]
  exact hk _ (z.upW _ _ (by omega))
 obtain ⟨fv,hf,hf'⟩:=za5 (l:=fvs) (i:=i) (by omega)
 obtain ⟨e,he,he'⟩:=za5 (l:=es) (i:=i) (by omega)
 have hvf:=zaQ fv
 simp -implicitDefEqProofs only [syms,symx,seval,c29]
 repeat' ((first|with_reducible_and_instances refine ztE sf ds98 sz62 (by omega) hf (fun p hp=>?_)|with_reducible_and_instances refine zcq hp ag62 ?_) <;> simp -implicitDefEqProofs only [syms,symx,seval,c29,hvf])
 simp -implicitDefEqProofs only [syms,symx,seval,c29,q0.lay,zax,↓zbG,zbD,za6]
 refine hrun i fv e hf' he' _ _ (z.upW _ _ (by omega)) (fun h' x=>?_)
 ((skip);replace z:=z.overW x (by (try simp only [lsz]);omega);(try replace q0:=q0.over x);(try replace sf:=sf.over x);rw [zaa h'])
 simp -implicitDefEqProofs only [syms,symx,seval,c29]
 refine zd5 (fun hne=>?_) (fun heq=>?_)
 ·rw [zmn hall he' hne] at hk
  simp -implicitDefEqProofs only [syms,symx,seval,c29]
  exact hk _ (z.upW _ _ (by omega))
 ·simp -implicitDefEqProofs only [syms,symx,seval,c29]
  rw [hw]
  (rw [hI1];with_reducible refine zae (m:=_) ?_ ⟨i+1,_,rfl,z,⟨rfl,by omega,q0,sf,zb5 (i:=i) (P:=fun x:Int=>x=0) he' hall heq⟩,junk (by kernel_rfl)⟩;omega)
end Go.Proofs.YtdplfgoifjjniaaGreatDoor
