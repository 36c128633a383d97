/- The code of some functions, node by node, for simp. Written by a program (mkcode.py). No condition. -/
import Derived.Test.YtdplfgoifjjniaaGreatDoorZQ0
set_option linter.unusedSimpArgs false
set_option linter.unusedVariables false
set_option maxRecDepth 100000
set_option maxHeartbeats 0
namespace Go.Proofs.YtdplfgoifjjniaaGreatDoor
open Go.Am
noncomputable def N52:=zax Tryz.f52
noncomputable def x52:=PLift.up (by have c:=zag N52 Tryz.f52;simp only [nEqs,Tryz.f52,seval] at c;exact nd c <| nd @zx0 <| nd @zlL <| nd @zmd <| nd @ix23 <| nd @ld23 <| nd @ld9 <| nd @ln23 <| @fi52)
theorem c52:type_of% x52.down:=x52.down
noncomputable def N53:=zax Tryz.f53
noncomputable def x53:=PLift.up (by have c:=zag N53 Tryz.f53;simp only [nEqs,Tryz.f53,seval] at c;exact nd c <| nd @zx0 <| nd @al67 <| nd @zlL <| nd @zse <| nd @zxu <| nd @zxv <| nd @ix24 <| nd @ld24 <| nd @ld3 <| nd @ld67 <| nd @ld9 <| nd @ln24 <| @fi53)
theorem c53:type_of% x53.down:=x53.down
noncomputable def N83:=zax Tryz.f83
noncomputable def x83:=PLift.up (by have c:=zag N83 Tryz.f83;simp only [nEqs,Tryz.f83,seval] at c;exact nd c <| nd @zlL <| nd @zxw <| nd @zAn <| nd @ix23 <| nd @ld23 <| nd @ld29 <| nd @ld9 <| nd @ln23 <| @fi83)
theorem c83:type_of% x83.down:=x83.down
noncomputable def N54:=zax Tryz.f54
noncomputable def x54:=PLift.up (by have c:=zag N54 Tryz.f54;simp only [nEqs,Tryz.f54,seval] at c;exact nd c <| nd @zx0 <| nd @al69 <| nd @zlL <| nd @zAl <| nd @zxw <| nd @ix25 <| nd @ld25 <| nd @ld29 <| nd @ld69 <| nd @ld9 <| nd @ln25 <| @fi54)
theorem c54:type_of% x54.down:=x54.down
noncomputable def N82:=zax Tryz.f82
noncomputable def x82:=PLift.up (by have c:=zag N82 Tryz.f82;simp only [nEqs,Tryz.f82,seval] at c;exact nd c <| nd @ld29 <| nd @ld69 <| @fi82)
theorem c82:type_of% x82.down:=x82.down
noncomputable def N55:=zax Tryz.f55
noncomputable def x55:=PLift.up (by have c:=zag N55 Tryz.f55;simp only [nEqs,Tryz.f55,seval] at c;exact nd c <| nd @zme <| nd @zAm <| nd @zxq <| nd @zxr <| nd @ld26 <| nd @ld27 <| nd @ld3 <| nd @ln26 <| nd @ln27 <| @fi55)
theorem c55:type_of% x55.down:=x55.down
noncomputable def N85:=zax Tryz.f85
noncomputable def x85:=PLift.up (by have c:=zag N85 Tryz.f85;simp only [nEqs,Tryz.f85,seval] at c;exact nd c <| nd @zlL <| nd @ld52 <| nd @ln52 <| @fi85)
theorem c85:type_of% x85.down:=x85.down
noncomputable def N113:=zax Tryz.f113
noncomputable def x113:=PLift.up (by have c:=zag N113 Tryz.f113;simp only [nEqs,Tryz.f113,seval] at c;exact nd c <| nd @ld29 <| nd @ld42 <| @zDo)
theorem c113:type_of% x113.down:=x113.down
noncomputable def N114:=zax Tryz.f114
noncomputable def x114:=PLift.up (by have c:=zag N114 Tryz.f114;simp only [nEqs,Tryz.f114,seval] at c;exact nd c <| nd @al42 <| nd @ix52 <| nd @ld29 <| nd @ld42 <| nd @ld52 <| nd @ln52 <| @zDp)
theorem c114:type_of% x114.down:=x114.down
noncomputable def N87:=zax Tryz.f87
noncomputable def x87:=PLift.up (by have c:=zag N87 Tryz.f87;simp only [nEqs,Tryz.f87,seval] at c;exact nd c <| nd @al23 <| nd @al42 <| nd @zxx <| nd @zxy <| nd @ix52 <| nd @ld23 <| nd @ld42 <| nd @ld52 <| nd @ln52 <| @fi87)
theorem c87:type_of% x87.down:=x87.down
noncomputable def N117:=zax Tryz.f117
noncomputable def x117:=PLift.up (by have c:=zag N117 Tryz.f117;simp only [nEqs,Tryz.f117,seval] at c;exact nd c <| nd @ld23 <| @zDs)
theorem c117:type_of% x117.down:=x117.down
noncomputable def N56:=zax Tryz.f56
noncomputable def x56:=PLift.up (by have c:=zag N56 Tryz.f56;simp only [nEqs,Tryz.f56,seval] at c;exact nd c <| nd @al71 <| nd @al73 <| nd @zlL <| nd @zxq <| nd @zxr <| nd @zif <| nd @zAo <| nd @zxz <| nd @ix26 <| nd @ix27 <| nd @ld26 <| nd @ld27 <| nd @ld29 <| nd @ld71 <| nd @ld73 <| nd @ld9 <| nd @ln26 <| nd @ln27 <| @fi56)
theorem c56:type_of% x56.down:=x56.down
noncomputable def N84:=zax Tryz.f84
noncomputable def x84:=PLift.up (by have c:=zag N84 Tryz.f84;simp only [nEqs,Tryz.f84,seval] at c;exact nd c <| nd @zxx <| nd @zxy <| nd @ld29 <| nd @ld42 <| nd @ld52 <| @fi84)
theorem c84:type_of% x84.down:=x84.down
noncomputable def N86:=zax Tryz.f86
noncomputable def x86:=PLift.up (by have c:=zag N86 Tryz.f86;simp only [nEqs,Tryz.f86,seval] at c;exact nd c <| nd @ld71 <| @fi86)
theorem c86:type_of% x86.down:=x86.down
noncomputable def N88:=zax Tryz.f88
noncomputable def x88:=PLift.up (by have c:=zag N88 Tryz.f88;simp only [nEqs,Tryz.f88,seval] at c;exact nd c <| nd @zxz <| nd @zAp <| nd @ld29 <| nd @ld42 <| nd @ld52 <| @fi88)
theorem c88:type_of% x88.down:=x88.down
noncomputable def N29:=zax Tryz.f29
noncomputable def x29:=PLift.up (by have c:=zag N29 Tryz.f29;simp only [nEqs,Tryz.f29,seval] at c;exact nd c <| nd @bs98 <| nd @ix98 <| nd @ld29 <| nd @ld62 <| nd @ln98 <| @fi29)
theorem c29:type_of% x29.down:=x29.down
noncomputable def N116:=zax Tryz.f116
noncomputable def x116:=PLift.up (by have c:=zag N116 Tryz.f116;simp only [nEqs,Tryz.f116,seval] at c;exact nd c <| @zDr)
theorem c116:type_of% x116.down:=x116.down
noncomputable def N138:=zax Tryz.f138
noncomputable def x138:=PLift.up (by have c:=zag N138 Tryz.f138;simp only [nEqs,Tryz.f138,seval] at c;exact nd c <| nd @ix23 <| nd @ld9 <| nd @ln23 <| @zDI)
theorem c138:type_of% x138.down:=x138.down
theorem zjT:tab.desc 125=some (.map 9 126):=by kernel_rfl
theorem ds9q:tab.desc 9=some .string:=by kernel_rfl
theorem zuG:tab.zero 126=some (.agg ⟨[]⟩):=by kernel_rfl
theorem znz:zbZ tab 126 []=some (.agg ⟨[]⟩):=by kernel_rfl
theorem zha {T:Tab} {t kt et:TypeId} {A w:Nat} {met:List ByteArray} {a:ByteArray} {h1:Heap} {bs:List Blk} {K:Value→Heap→Prop} (m:MapK Value.string h1 A met) (hd:T.desc t=some (.map kt et)) (hs:T.desc kt=some .string) (hz:T.zero et=some (.agg ⟨[]⟩)) (hK:K (.tuple #[.agg ⟨[]⟩,.bool (hasP met a)]) (h1.lay bs w)):valE (zdB T t (.map (some A)) (.string a) true (h1.lay bs w)) (h1.lay bs w) K :=
 zqm (kv:=Value.string) m (fun _=>rfl) hd (zjV hs) hz (fun hm=>by rw [hasP_iff.2 hm] at hK;exact hK) (fun hm=>by rw [Bool.eq_false_iff.2 (mt hasP_iff.1 hm)] at hK;exact hK)
theorem zls {T:Tab} {t kt et:TypeId} {A w:Nat} {met:List ByteArray} {a:ByteArray} {h1:Heap} {bs:List Blk} {K:Value→Heap→Prop} (m:MapK Value.string h1 A met) (hd:T.desc t=some (.map kt et)) (hs:T.desc kt=some .string) (hK:∀ h',MapK Value.string h' A (met++[a])→Chg A (h1.lay bs w) h'→K undef h'):memE (zbE T t (.map (some A)) (.string a) (.agg ⟨[]⟩) (h1.lay bs w)) K :=
 zw7 (kv:=Value.string) m (fun _=>rfl) (fun x=>zf8 x) hd (zjV hs) (fun h' m2 c=>hK h' (m2.same (fun b=>by rw [List.mem_cons,List.mem_append,List.mem_singleton];exact Or.comm)) c)
theorem zhg (h:Heap) (l:List Blk) (w i o:Nat) (v:Value) (hi:i < l.length):zaZ tab 126 (.pointer (some ⟨h.size+i,o,none⟩)) v (h.lay l w)=if v.cells.size=0 then zee l[i]? i o v.cells.toList h l w else none:=zfR (by kernel_rfl) h l w i o v hi
theorem zvE (s:ByteArray) (h:Heap) (hsp:SpaceAt 1 h) (K:Value→Heap→Prop) (hk:∀ h',Ext h h'→K (.bool (zd8 s)) h'):Ok Tryz.prog tab ov 79 [.string s] h K :=
 zlc s h hsp K (fun g h' x=>by rw [prinB_iff.2 g] at hk;exact hk h' x) (fun g h' x=>by rw [zmK g] at hk;exact hk h' x)
theorem zvD (s:ByteArray) (h:Heap) (hsp:SpaceAt 1 h) (K:Value→Heap→Prop) (hk:∀ h',Ext h h'→K (.bool (zd8 s)) h'):Ok Tryz.prog tab ov 80 [.string s] h K :=
 zpp s h hsp K (fun g h' x=>by rw [prinB_iff.2 g] at hk;exact hk h' x) (fun g h' x=>by rw [zmK g] at hk;exact hk h' x)
theorem ziI {l:List ByteArray} (h:l.length < 1∨16 < l.length):zhx l=4:=if_pos h
theorem zsW (l:List ByteArray) (p0 p1 p2 p5 p6:Value) (q b:Int) (h:Heap) (hsp:SpaceAt 1 h) (hl:Sl Rep.str h p0 l) (K:Value→Heap→Prop) (hk:∀ h',Ext h h'→K (.int .i64 (zhx l)) h'):Ok Tryz.prog tab ov 52 [zbN p0 p1 p2 p5 p6 q b] h K:=by
 rw [zaa h]
 have z:=Ext.refl h
 have hle:=hl.le
 have hva:=za3 p0
 have hvs:=vStr
 have hlv:=fun (hh:Heap)=>hl.lenA ds23 hh
 refine Ok.into rfl zwp (zaw N52) rfl (m:=47) rfl ?_
 simp -implicitDefEqProofs only [syms,symx,seval,c52,zat,pol0,hva,hlv]
 refine zaD (fun h1=>?_) (fun h1=>?_)
 ·rw [ziI (.inl (by omega))] at hk
  simp -implicitDefEqProofs only [syms,symx,seval,c52]
  exact hk _ (z.upW _ _ (by omega))
 simp -implicitDefEqProofs only [syms,symx,seval,c52]
 refine zaD (fun h2=>?_) (fun h2=>?_)
 ·rw [ziI (.inr (by omega))] at hk
  simp -implicitDefEqProofs only [syms,symx,seval,c52]
  exact hk _ (z.upW _ _ (by omega))
 have hpe:zhx l=za7 (fun pre w=>za6 [notE (!zd8 w) 3,notE (hasP pre w) 5]) [] l:=if_neg (by omega)
 rw [hpe] at hk
 obtain ⟨F,hF⟩:∃ F:List ByteArray→ByteArray→Int,F=fun pre w=>za6 [notE (!zd8 w) 3,notE (hasP pre w) 5]:=⟨_,rfl⟩
 rw [← hF] at hk
 simp -implicitDefEqProofs only [syms,symx,seval,c52,zfn,zat,pol0,hva,hlv]
 refine zdW (fun h' x hq=>?_)
 have q0:=hq 0 _ rfl
 have q1:=hq 1 _ rfl
 clear hq
 (replace z:=z.overW x (by omega);rw [zaa h'])
 obtain ⟨M,hM⟩:∃ M,M=h.size+1:=⟨_,rfl⟩
 rw [← hM] at q1
 rw [← hM]
 clear q0
 obtain ⟨I1,hI1⟩:∃ I:Nat→Env→Heap→Prop,I=(fun n e h'=>∃ (i:Nat) (h1:Heap),h'=h1.lay [] h1.low∧Ext h h1∧(n=l.length - i∧i≤l.length∧MapK Value.string h1 M (l.take i)∧za7 F [] l=za7 F (l.take i) (l.drop i))∧∃ J:Nat→Value,e=(jr J 0 4 (.map (some M)::jr J 5 16 (p0::.int .i64 l.length::.int .i64 i::jr J 24 24 ([]))))):=⟨_,rfl⟩
 refine zaE I1 _ (by rw [hI1];exact ⟨0,_,rfl,z,⟨rfl,by omega,MapK.new q1,rfl⟩,junk (by kernel_rfl)⟩) ?_
 intro n e h' hin
 rw [hI1] at hin
 obtain ⟨i,h1',rfl,z,hinv,J,rfl⟩:=hin
 clear q1
 obtain ⟨rfl,hi,q1,hee⟩:=hinv
 have hw:=zcl i (by omega)
 simp -implicitDefEqProofs only [syms,symx,seval,c52]
 refine zaD (fun hlt=>?_) (fun hlt=>?_)
 rotate_left
 ·rw [hee,zdu (by omega)] at hk
  simp -implicitDefEqProofs only [syms,symx,seval,c52]
  exact hk _ (z.upW _ _ (by omega))
 obtain ⟨r,hr,hr'⟩:=zbs (l:=l) (i:=i) (by omega)
 rw [hee,zbg hr'] at hk
 have hFr:F (l.take i) r=za6 [notE (!zd8 r) 3,notE (hasP (l.take i) r) 5]:=by rw [hF]
 simp -implicitDefEqProofs only [syms,symx,seval,c52,hva]
 repeat' ((first|with_reducible_and_instances refine zhs (hl.mono z.inc) ds23 sz9 (by omega) hr (fun p hp=>?_)|with_reducible_and_instances refine zfO hp ag9 ?_) <;> simp -implicitDefEqProofs only [syms,symx,seval,c52,hva,hvs])
 simp -implicitDefEqProofs only [syms,symx,seval,c52,zeE,hvs]
 refine zha q1 zjT ds9q zuG ?_
 simp -implicitDefEqProofs only [syms,symx,seval,c52,zbA,zaS,List.all_cons,List.all_nil,Am.one,Bool.and_true,Bool.true_and,Bool.and_self,List.set_cons_zero,List.set_cons_succ,st4,st3,st9,st39,st42,zhg]
 rw [zcc]
 simp -implicitDefEqProofs only [syms,symx,seval,c52,zbA,zaS,List.all_cons,List.all_nil,Am.one,Bool.and_true,Bool.true_and,Bool.and_self,List.set_cons_zero,List.set_cons_succ,st4,st3,st9,st39,st42,zhg]
 refine zvE r _ ((hsp.ext z).lay _ _) _ (fun h' x=>?_)
 (replace z:=z.overW x (by omega);(replace q1:=q1.over x);rw [zaa h'])
 clear hp
 simp -implicitDefEqProofs only [syms,symx,seval,c52]
 (with_reducible_and_instances apply zar);(· rfl)
 simp -implicitDefEqProofs only [syms,symx,seval,c52]
 refine zbp _ _ _ _ (fun h' f1 x r1=>?_)
 (replace z:=z.overW x (by omega);(replace q1:=q1.over x);rw [zaa h'])
 simp -implicitDefEqProofs only [syms,symx,seval,c52]
 refine zbp _ _ _ _ (fun h' f2 x r2=>?_)
 (replace z:=z.overW x (by omega);(replace q1:=q1.over x);(replace r1:=r1.over x);rw [zaa h'])
 obtain ⟨g1,u1,v1,rfl⟩:=r1.1
 obtain ⟨g2,u2,v2,rfl⟩:=r2.1
 simp -implicitDefEqProofs only [syms,symx,seval,c52]
 refine zce [.func g1 u1 v1,.func g2 u2 v2] [notE (!zd8 r) 3,notE (hasP (l.take i) r) 5] _ _ (zfQ (i:=0) rfl rfl rfl (by simp)) (by simp) rfl (fun i fv e h1 h2=>?_) _ (fun h' x=>?_)
 ·match i,h1,h2 with
  |0,h1,h2=>cases h1;cases h2;exact r1.lay _ _
  |1,h1,h2=>cases h1;cases h2;exact r2.lay _ _
 (replace z:=z.overW x (by omega);(replace q1:=q1.over x);(replace r1:=r1.over x);(replace r2:=r2.over x);rw [zaa h'])
 rw [← hFr]
 clear r1 r2
 simp -implicitDefEqProofs only [syms,symx,seval,c52]
 refine zdS (fun hne=>?_) (fun heq=>?_)
 ·rw [if_neg hne] at hk
  simp -implicitDefEqProofs only [syms,symx,seval,c52]
  exact hk _ (z.upW _ _ (by omega))
 rw [if_pos heq] at hk
 have hMs:h.size≤M:=by omega
 simp -implicitDefEqProofs only [syms,symx,seval,c52,znz,zeF]
 refine zls q1 zjT ds9q (fun h3 q3 cg3=>?_)
 replace z:=z.stepW cg3 hMs (by omega)
 rw [zaa h3]
 simp -implicitDefEqProofs only [syms,symx,seval,c52]
 rw [hw]
 have htk:l.take (i+1)=l.take i++[r]:=by rw [List.take_add_one,hr'];rfl
 rw [← htk] at q3
 (rw [hI1];with_reducible refine zae (m:=_) ?_ ⟨i+1,_,rfl,z,⟨rfl,by omega,q3,by rw [hee,zbg hr',if_pos heq]⟩,junk (by kernel_rfl)⟩;omega)
theorem zqR {l:List PredD} (h:32 < l.length):zkb l=4:=if_pos h
theorem zeL (x y:Value):([x,y]:List Value)[0]? = some x:=rfl
theorem zfP (x y:Value):([x,y]:List Value)[1]? = some y:=rfl
theorem zsV (l:List PredD) (p0 p1 p2 p5 p6:Value) (q b:Int) (h:Heap) (hsp:SpaceAt 1 h) (hl:Sl Rep.pred h p1 l) (K:Value→Heap→Prop) (hk:∀ h',Ext h h'→K (.int .i64 (zkb l)) h'):Ok Tryz.prog tab ov 53 [zbN p0 p1 p2 p5 p6 q b] h K:=by
 rw [zaa h]
 have z:=Ext.refl h
 have hle:=hl.le
 have hva:=za3 p1
 have hvs:=vStr
 have hlv:=fun (hh:Heap)=>hl.lenA ds24 hh
 refine Ok.into rfl zwq (zaw N53) rfl (m:=53) rfl ?_
 simp -implicitDefEqProofs only [syms,symx,seval,c53,zat,pol1,hva,hlv]
 refine zaD (fun h2=>?_) (fun h2=>?_)
 ·rw [zqR (by omega)] at hk
  simp -implicitDefEqProofs only [syms,symx,seval,c53]
  exact hk _ (z.upW _ _ (by omega))
 have hpe:zkb l=za7 (fun pre x=>za6 [notE (!zd8 x.name) 3,notE (hasP (pre.map PredD.name) x.name) 5,notE (decide (x.arity < 0∨4 < x.arity)) 4]) [] l:=if_neg (by omega)
 rw [hpe] at hk
 obtain ⟨F,hF⟩:∃ F:List PredD→PredD→Int,F=fun pre x=>za6 [notE (!zd8 x.name) 3,notE (hasP (pre.map PredD.name) x.name) 5,notE (decide (x.arity < 0∨4 < x.arity)) 4]:=⟨_,rfl⟩
 rw [← hF] at hk
 simp -implicitDefEqProofs only [syms,symx,seval,c53,zfn,zat,pol1,hva,hlv]
 refine zdW (fun h' x hq=>?_)
 have q0:=hq 0 _ rfl
 have q1:=hq 1 _ rfl
 clear hq
 (replace z:=z.overW x (by omega);rw [zaa h'])
 obtain ⟨M,hM⟩:∃ M,M=h.size+1:=⟨_,rfl⟩
 rw [← hM] at q1
 rw [← hM]
 clear q0
 obtain ⟨I1,hI1⟩:∃ I:Nat→Env→Heap→Prop,I=(fun n e h'=>∃ (i:Nat) (h1:Heap),h'=h1.lay [] h1.low∧Ext h h1∧(n=l.length - i∧i≤l.length∧MapK Value.string h1 M ((l.take i).map PredD.name)∧za7 F [] l=za7 F (l.take i) (l.drop i))∧∃ J:Nat→Value,e=(jr J 0 3 (.map (some M)::jr J 4 11 (p1::.int .i64 l.length::.int .i64 i::jr J 18 36 ([]))))):=⟨_,rfl⟩
 refine zaE I1 _ (by rw [hI1];exact ⟨0,_,rfl,z,⟨rfl,by omega,MapK.new q1,rfl⟩,junk (by kernel_rfl)⟩) ?_
 intro n e h' hin
 rw [hI1] at hin
 obtain ⟨i,h1',rfl,z,hinv,J,rfl⟩:=hin
 clear q1
 obtain ⟨rfl,hi,q1,hee⟩:=hinv
 have hw:=zcl i (by omega)
 simp -implicitDefEqProofs only [syms,symx,seval,c53]
 refine zaD (fun hlt=>?_) (fun hlt=>?_)
 rotate_left
 ·rw [hee,zdu (by omega)] at hk
  simp -implicitDefEqProofs only [syms,symx,seval,c53]
  exact hk _ (z.upW _ _ (by omega))
 obtain ⟨r,hr,hr'⟩:=zbs (l:=l) (i:=i) (by omega)
 rw [hee,zbg hr'] at hk
 have hFr:F (l.take i) r=za6 [notE (!zd8 r.name) 3,notE (hasP ((l.take i).map PredD.name) r.name) 5,notE (decide (r.arity < 0∨4 < r.arity)) 4]:=by rw [hF]
 simp -implicitDefEqProofs only [syms,symx,seval,c53,hva]
 repeat' ((first|with_reducible_and_instances refine zxI (hl.mono z.inc) ds24 sz67 (by omega) hr (fun p hp=>?_)|with_reducible_and_instances refine ldP hp ag67 sz67 ?_) <;> simp -implicitDefEqProofs only [syms,symx,seval,c53,hva,hvs])
 simp -implicitDefEqProofs only [syms,symx,seval,c53,zbA,zaS,List.all_cons,List.all_nil,Am.one,Bool.and_true,Bool.true_and,Bool.and_self,List.set_cons_zero,List.set_cons_succ,st4,st3,st9,st39,st42,zAY,zeE,hvs]
 refine zha q1 zjT ds9q zuG ?_
 simp -implicitDefEqProofs only [syms,symx,seval,c53,zbA,zaS,List.all_cons,List.all_nil,Am.one,Bool.and_true,Bool.true_and,Bool.and_self,List.set_cons_zero,List.set_cons_succ,st4,st3,st9,st39,st42,zhg]
 rw [zcc]
 simp -implicitDefEqProofs only [syms,symx,seval,c53,zbA,zaS,List.all_cons,List.all_nil,Am.one,Bool.and_true,Bool.true_and,Bool.and_self,List.set_cons_zero,List.set_cons_succ,st4,st3,st9,st39,st42,zhg]
 refine zdW (fun h' x hq=>?_)
 have e0:=hq 0 _ rfl
 clear hq
 (replace z:=z.overW x (by omega);(replace q1:=q1.over x);rw [zaa h'])
 obtain ⟨E0,hE0⟩:∃ E0,E0=h1'.size+0:=⟨_,rfl⟩
 rw [← hE0] at e0
 rw [← hE0]
 clear hp
 with_reducible first|refine zb9 (by simp only [c53]) (z.upW _ _ (by omega)) ?_
 simp -implicitDefEqProofs only [syms,symx,seval,c53,e0.lay,zeL,zfP,hvs]
 refine zvD r.name _ ((hsp.ext z).lay _ _) _ (fun h' x=>?_)
 (((with_reducible refine zah ?_ ?_ ?_);(· exact (by (simp only [lsz]);have:=z.size;omega));(· exact x));replace z:=z.overW x (by omega);(replace q1:=q1.over x);(replace e0:=e0.over x);rw [zaa h'])
 simp -implicitDefEqProofs only [syms,symx,seval,c53]
 (with_reducible_and_instances apply zar);(· rfl)
 simp -implicitDefEqProofs only [syms,symx,seval,c53]
 refine zbp _ _ _ _ (fun h' f1 x r1=>?_)
 (((with_reducible refine zah ?_ ?_ ?_);(· exact (by (simp only [lsz]);have:=z.size;omega));(· exact x));replace z:=z.overW x (by omega);(replace q1:=q1.over x);(replace e0:=e0.over x);rw [zaa h'])
 simp -implicitDefEqProofs only [syms,symx,seval,c53]
 refine zbp _ _ _ _ (fun h' f2 x r2=>?_)
 (((with_reducible refine zah ?_ ?_ ?_);(· exact (by (simp only [lsz]);have:=z.size;omega));(· exact x));replace z:=z.overW x (by omega);(replace q1:=q1.over x);(replace e0:=e0.over x);(replace r1:=r1.over x);rw [zaa h'])
 simp -implicitDefEqProofs only [syms,symx,seval,c53,e0.lay,zeL,zfP,hvs]
 refine zaD (fun c1=>?_) (fun c1=>?_)
 ·have hbb:decide (r.arity < 0∨4 < r.arity)=true:=by simp [c1]
  rw [hbb] at hFr
  simp -implicitDefEqProofs only [syms,symx,seval,c53,e0.lay,zeL,zfP,hvs]
  refine zbp _ _ _ _ (fun h' f3 x r3=>?_)
  (((with_reducible refine zah ?_ ?_ ?_);(· exact (by (simp only [lsz]);have:=z.size;omega));(· exact x));replace z:=z.overW x (by omega);(replace q1:=q1.over x);(replace e0:=e0.over x);(replace r1:=r1.over x);(replace r2:=r2.over x);rw [zaa h'])
  obtain ⟨g1,u1,v1,rfl⟩:=r1.1
  obtain ⟨g2,u2,v2,rfl⟩:=r2.1
  obtain ⟨g3,u3,v3,rfl⟩:=r3.1
  simp -implicitDefEqProofs only [syms,symx,seval,c53]
  refine zci (by have:=z.size;omega) (by omega) ?_
  simp -implicitDefEqProofs only [syms,symx,seval,c53]
  refine zce [.func g1 u1 v1,.func g2 u2 v2,.func g3 u3 v3] [notE (!zd8 r.name) 3,notE (hasP ((l.take i).map PredD.name) r.name) 5,notE true 4] _ _ (zfQ (i:=0) rfl rfl rfl (by simp)) (by simp) rfl (fun i fv e h1 h2=>?_) _ (fun h' x=>?_)
  ·match i,h1,h2 with
   |0,h1,h2=>cases h1;cases h2;exact r1.lay _ _
   |1,h1,h2=>cases h1;cases h2;exact r2.lay _ _
   |2,h1,h2=>cases h1;cases h2;exact r3.lay _ _
  (((with_reducible refine zah ?_ ?_ ?_);(· exact (by (simp only [lsz]);have:=z.size;omega));(· exact x));replace z:=z.overW x (by omega);(replace q1:=q1.over x);(replace r1:=r1.over x);(replace r2:=r2.over x);(replace r3:=r3.over x);rw [zaa h'])
  rw [← hFr]
  clear r1 r2 r3
  simp -implicitDefEqProofs only [syms,symx,seval,c53]
  ((with_reducible refine ⟨z.grw.lay _ _,?_⟩);(intro _ h' zz x _);(simp only [zan,List.append_nil] at x);(replace q1:=q1.over x);(replace z:=zz);(clear zz);rw [zaa h'])
  simp -implicitDefEqProofs only [syms,symx,seval,c53]
  refine zdS (fun hne=>?_) (fun heq=>?_)
  ·rw [if_neg hne] at hk
   simp -implicitDefEqProofs only [syms,symx,seval,c53]
   exact hk _ (z.upW _ _ (by omega))
  ·rw [heq] at hFr
   have:=firstE_zero.1 hFr.symm 4 (by simp [notE])
   omega
 ·have hbb:decide (r.arity < 0∨4 < r.arity)=decide (4 < r.arity):=by simp [c1]
  rw [hbb] at hFr
  simp -implicitDefEqProofs only [syms,symx,seval,c53,e0.lay,zeL,zfP,hvs]
  repeat (rw [zcc];simp -implicitDefEqProofs only [syms,symx,seval,c53,e0.lay,zeL,zfP,hvs])
  refine zbp _ _ _ _ (fun h' f3 x r3=>?_)
  (((with_reducible refine zah ?_ ?_ ?_);(· exact (by (simp only [lsz]);have:=z.size;omega));(· exact x));replace z:=z.overW x (by omega);(replace q1:=q1.over x);(replace e0:=e0.over x);(replace r1:=r1.over x);(replace r2:=r2.over x);rw [zaa h'])
  obtain ⟨g1,u1,v1,rfl⟩:=r1.1
  obtain ⟨g2,u2,v2,rfl⟩:=r2.1
  obtain ⟨g3,u3,v3,rfl⟩:=r3.1
  simp -implicitDefEqProofs only [syms,symx,seval,c53]
  refine zci (by have:=z.size;omega) (by omega) ?_
  simp -implicitDefEqProofs only [syms,symx,seval,c53]
  refine zce [.func g1 u1 v1,.func g2 u2 v2,.func g3 u3 v3] [notE (!zd8 r.name) 3,notE (hasP ((l.take i).map PredD.name) r.name) 5,notE (decide (4 < r.arity)) 4] _ _ (zfQ (i:=0) rfl rfl rfl (by simp)) (by simp) rfl (fun i fv e h1 h2=>?_) _ (fun h' x=>?_)
  ·match i,h1,h2 with
   |0,h1,h2=>cases h1;cases h2;exact r1.lay _ _
   |1,h1,h2=>cases h1;cases h2;exact r2.lay _ _
   |2,h1,h2=>cases h1;cases h2;exact r3.lay _ _
  (((with_reducible refine zah ?_ ?_ ?_);(· exact (by (simp only [lsz]);have:=z.size;omega));(· exact x));replace z:=z.overW x (by omega);(replace q1:=q1.over x);(replace e0:=e0.over x);(replace r1:=r1.over x);(replace r2:=r2.over x);(replace r3:=r3.over x);rw [zaa h'])
  rw [← hFr]
  clear r1 r2 r3
  simp -implicitDefEqProofs only [syms,symx,seval,c53]
  ((with_reducible refine ⟨z.grw.lay _ _,?_⟩);(intro _ h' zz x _);(simp only [zan,List.append_nil] at x);(replace q1:=q1.over x);(replace e0:=e0.over x);(replace z:=zz);(clear zz);rw [zaa h'])
  simp -implicitDefEqProofs only [syms,symx,seval,c53]
  refine zdS (fun hne=>?_) (fun heq=>?_)
  ·rw [if_neg hne] at hk
   simp -implicitDefEqProofs only [syms,symx,seval,c53]
   exact hk _ (z.upW _ _ (by omega))
  rw [if_pos heq] at hk
  have hMs:h.size≤M:=by omega
  simp -implicitDefEqProofs only [syms,symx,seval,c53,e0.lay,zeL,hvs,znz,zeF]
  refine zls q1 zjT ds9q (fun h3 q3 cg3=>?_)
  replace z:=z.stepW cg3 hMs (by omega)
  rw [zaa h3]
  simp -implicitDefEqProofs only [syms,symx,seval,c53]
  rw [hw]
  have htk:(l.take (i+1)).map PredD.name=(l.take i).map PredD.name++[r.name]:=by rw [List.take_add_one,hr'];simp
  rw [← htk] at q3
  (rw [hI1];with_reducible refine zae (m:=_) ?_ ⟨i+1,_,rfl,z,⟨rfl,by omega,q3,by rw [hee,zbg hr',if_pos heq]⟩,junk (by kernel_rfl)⟩;omega)
theorem zec {α:Type} {r:Rep α} {h:Heap} {v:Value} {l:List α} (f:Sl r h v l):∃ a n c,v=.slice a n c:=by
 rcases f with ⟨rfl,_⟩|⟨A,o,c,row,u,ro,rfl,_⟩ <;> exact ⟨_,_,_,rfl⟩
theorem zv4 {h:Heap} {v:Value} {l:List ByteArray} (f:Sl Rep.str h v l) (i:Nat) (hi:i≤l.length):∃ a n c,zbl tab 23 v none (some (.int .i64 i)) none=some (.slice a n c)∧Sl Rep.str h (.slice a n c) (l.take i):=by
 obtain ⟨u1,g1,g2⟩:=f.sub (a:=0) (b:=i) (by decide) ds23 sz9 (.inl ⟨rfl,rfl⟩) (.inr ⟨.i64,rfl⟩) (by omega) hi
 obtain ⟨a,n,c,rfl⟩:=zec g2
 exact ⟨a,n,c,g1,by simpa using g2⟩
theorem zmN {ps:List ByteArray} {c:ClearD} (h:c.reads.length < 1∨16 < c.reads.length):zgD ps c=4:=if_pos h
theorem zsX (ps:List ByteArray) (c:ClearD) (v:Value) (p0 p1 p2 p5 p6:Value) (q b:Int) (h:Heap) (hone:(zaq p0 p1 p2 p5 p6 q b).all Am.one=true) (h0:Sl Rep.str h p0 ps) (hs:ps.length≤1000) (hv:Sl Rep.str h v c.reads) (K:Value→Heap→Prop) (hk:∀ h',Ext h h'→K (.int .i64 (zgD ps c)) h'):Ok Tryz.prog tab ov 83 [zbN p0 p1 p2 p5 p6 q b,.agg ⟨[.string c.who,v]⟩] h K:=by
 rw [zaa h]
 have z:=Ext.refl h
 have hle:=hv.le
 have hva:=za3 v
 have hvs:=vStr
 have hlv:=fun (hh:Heap)=>hv.lenA ds23 hh
 refine Ok.into rfl zwM (zaw N83) rfl (m:=47) rfl ?_
 simp -implicitDefEqProofs only [syms,symx,seval,c83,zat,hva,hlv]
 refine zaD (fun h1=>?_) (fun h1=>?_)
 ·rw [zmN (.inl (by omega))] at hk
  simp -implicitDefEqProofs only [syms,symx,seval,c83]
  exact hk _ (z.upW _ _ (by omega))
 simp -implicitDefEqProofs only [syms,symx,seval,c83]
 refine zaD (fun h2=>?_) (fun h2=>?_)
 ·rw [zmN (.inr (by omega))] at hk
  simp -implicitDefEqProofs only [syms,symx,seval,c83]
  exact hk _ (z.upW _ _ (by omega))
 have hpe:zgD ps c=za7 (fun pre w=>za6 [notE (!hasP ps w) 6,notE (decide (w=c.who)) 11,notE (hasP pre w) 5]) [] c.reads:=if_neg (by omega)
 rw [hpe] at hk
 obtain ⟨F,hF⟩:∃ F:List ByteArray→ByteArray→Int,F=fun pre w=>za6 [notE (!hasP ps w) 6,notE (decide (w=c.who)) 11,notE (hasP pre w) 5]:=⟨_,rfl⟩
 rw [← hF] at hk
 simp -implicitDefEqProofs only [syms,symx,seval,c83,hva,hlv]
 refine zdW (fun h' x hq=>?_)
 have q0:=hq 0 _ rfl
 have q1:=hq 1 _ rfl
 clear hq
 (replace z:=z.overW x (by omega);rw [zaa h'])
 obtain ⟨A0,hA0⟩:∃ A0,A0=h.size+0:=⟨_,rfl⟩
 rw [← hA0] at q0
 rw [← hA0]
 obtain ⟨A1,hA1⟩:∃ A1,A1=h.size+1:=⟨_,rfl⟩
 rw [← hA1] at q1
 rw [← hA1]
 obtain ⟨I1,hI1⟩:∃ I:Nat→Env→Heap→Prop,I=(fun n e h'=>∃ (i:Nat) (h1:Heap),h'=h1.lay [] h1.low∧Ext h h1∧(n=c.reads.length - i∧i≤c.reads.length∧Holds h1 A0 (.row (zaq p0 p1 p2 p5 p6 q b) 29 false)∧Holds h1 A1 (.row [.string c.who,v] 69 false)∧za7 F [] c.reads=za7 F (c.reads.take i) (c.reads.drop i))∧∃ J:Nat→Value,e=(jr J 0 2 (.pointer (some ⟨A0,0,none⟩)::.pointer (some ⟨A1,0,none⟩)::jr J 4 15 (v::.int .i64 c.reads.length::.int .i64 i::jr J 22 27 ([]))))):=⟨_,rfl⟩
 refine zaE I1 _ (by rw [hI1];exact ⟨0,_,rfl,z,⟨rfl,by omega,q0,q1,rfl⟩,junk (by kernel_rfl)⟩) ?_
 intro n e h' hin
 rw [hI1] at hin
 obtain ⟨i,h1',rfl,z,hinv,J,rfl⟩:=hin
 clear q0 q1
 obtain ⟨rfl,hi,q0,q1,hee⟩:=hinv
 have hw:=zcl i (by omega)
 simp -implicitDefEqProofs only [syms,symx,seval,c83]
 refine zaD (fun hlt=>?_) (fun hlt=>?_)
 rotate_left
 ·rw [hee,zdu (by omega)] at hk
  simp -implicitDefEqProofs only [syms,symx,seval,c83]
  exact hk _ (z.upW _ _ (by omega))
 obtain ⟨r,hr,hr'⟩:=zbs (l:=c.reads) (i:=i) (by omega)
 rw [hee,zbg hr'] at hk
 have hFr:F (c.reads.take i) r=za6 [notE (!hasP ps r) 6,notE (decide (r=c.who)) 11,notE (hasP (c.reads.take i) r) 5]:=by rw [hF]
 obtain ⟨a,m,cc,g1,g2⟩:=zv4 hv i hi
 have hvw:∀ (h:Heap) (K:Value→Heap→Prop),valE (some (.slice a m cc)) h K=K (.slice a m cc) h:=fun _ _=>rfl
 simp -implicitDefEqProofs only [syms,symx,seval,c83,hva]
 repeat' ((first|with_reducible_and_instances refine zhs (hv.mono z.inc) ds23 sz9 (by omega) hr (fun p hp=>?_)|with_reducible_and_instances refine zfO hp ag9 ?_) <;> simp -implicitDefEqProofs only [syms,symx,seval,c83,hva,hvs])
 clear hp
 with_reducible first|refine zb9 (by simp only [c83]) (z.upW _ _ (by omega)) ?_
 simp -implicitDefEqProofs only [syms,symx,seval,c83,q0.lay,q1.lay,zeL,zfP,hvs,zat,↓zbI,zbz,za0]
 refine zcz ps r _ _ _ _ _ _ _ _ ((h0.mono z.inc).lay _ _) hs _ (fun h' x=>?_)
 (((with_reducible refine zah ?_ ?_ ?_);(· exact (by (simp only [lsz]);have:=z.size;omega));(· exact x));replace z:=z.overW x (by omega);(replace q0:=q0.over x);(replace q1:=q1.over x);rw [zaa h'])
 simp -implicitDefEqProofs only [syms,symx,seval,c83]
 (with_reducible_and_instances apply zar);(· rfl)
 simp -implicitDefEqProofs only [syms,symx,seval,c83]
 refine zbp _ _ _ _ (fun h' f1 x r1=>?_)
 (((with_reducible refine zah ?_ ?_ ?_);(· exact (by (simp only [lsz]);have:=z.size;omega));(· exact x));replace z:=z.overW x (by omega);(replace q0:=q0.over x);(replace q1:=q1.over x);rw [zaa h'])
 simp -implicitDefEqProofs only [syms,symx,seval,c83,q0.lay,q1.lay,zeL,zfP,hvs]
 rw [zcc]
 simp -implicitDefEqProofs only [syms,symx,seval,c83,q0.lay,q1.lay,zeL,zfP,hvs]
 refine zbp _ _ _ _ (fun h' f2 x r2=>?_)
 (((with_reducible refine zah ?_ ?_ ?_);(· exact (by (simp only [lsz]);have:=z.size;omega));(· exact x));replace z:=z.overW x (by omega);(replace q0:=q0.over x);(replace q1:=q1.over x);(replace r1:=r1.over x);rw [zaa h'])
 simp -implicitDefEqProofs only [syms,symx,seval,c83,q0.lay,q1.lay,zeL,zfP,hva,g1,hvw,hvs]
 refine zb4 (c.reads.take i) _ r _ ((g2.mono z.inc).lay _ _) (by rw [List.length_take];omega) _ (fun h' x=>?_)
 (((with_reducible refine zah ?_ ?_ ?_);(· exact (by (simp only [lsz]);have:=z.size;omega));(· exact x));replace z:=z.overW x (by omega);(replace q0:=q0.over x);(replace q1:=q1.over x);(replace r1:=r1.over x);(replace r2:=r2.over x);rw [zaa h'])
 simp -implicitDefEqProofs only [syms,symx,seval,c83]
 refine zbp _ _ _ _ (fun h' f3 x r3=>?_)
 (((with_reducible refine zah ?_ ?_ ?_);(· exact (by (simp only [lsz]);have:=z.size;omega));(· exact x));replace z:=z.overW x (by omega);(replace q0:=q0.over x);(replace q1:=q1.over x);(replace r1:=r1.over x);(replace r2:=r2.over x);rw [zaa h'])
 obtain ⟨k1,u1,v1,rfl⟩:=r1.1
 obtain ⟨k2,u2,v2,rfl⟩:=r2.1
 obtain ⟨k3,u3,v3,rfl⟩:=r3.1
 simp -implicitDefEqProofs only [syms,symx,seval,c83]
 refine zci (by have:=z.size;omega) (by omega) ?_
 simp -implicitDefEqProofs only [syms,symx,seval,c83]
 refine zce [.func k1 u1 v1,.func k2 u2 v2,.func k3 u3 v3] [notE (!hasP ps r) 6,notE (decide (r=c.who)) 11,notE (hasP (c.reads.take i) r) 5] _ _ (zfQ (i:=0) rfl rfl rfl (by simp)) (by simp) rfl (fun i fv e h1 h2=>?_) _ (fun h' x=>?_)
 ·match i,h1,h2 with
  |0,h1,h2=>cases h1;cases h2;exact r1.lay _ _
  |1,h1,h2=>cases h1;cases h2;exact r2.lay _ _
  |2,h1,h2=>cases h1;cases h2;exact r3.lay _ _
 (((with_reducible refine zah ?_ ?_ ?_);(· exact (by (simp only [lsz]);have:=z.size;omega));(· exact x));replace z:=z.overW x (by omega);(replace q0:=q0.over x);(replace q1:=q1.over x);(replace r1:=r1.over x);(replace r2:=r2.over x);(replace r3:=r3.over x);rw [zaa h'])
 rw [← hFr]
 clear r1 r2 r3
 simp -implicitDefEqProofs only [syms,symx,seval,c83]
 ((with_reducible refine ⟨z.grw.lay _ _,?_⟩);(intro _ h' zz x _);(simp only [zan,List.append_nil] at x);(replace q0:=q0.over x);(replace q1:=q1.over x);(replace z:=zz);(clear zz);rw [zaa h'])
 simp -implicitDefEqProofs only [syms,symx,seval,c83]
 refine zdS (fun hne=>?_) (fun heq=>?_)
 ·rw [if_neg hne] at hk
  simp -implicitDefEqProofs only [syms,symx,seval,c83]
  exact hk _ (z.upW _ _ (by omega))
 rw [if_pos heq] at hk
 simp -implicitDefEqProofs only [syms,symx,seval,c83]
 rw [hw]
 (rw [hI1];with_reducible refine zae (m:=_) ?_ ⟨i+1,_,rfl,z,⟨rfl,by omega,q0,q1,by rw [hee,zbg hr',if_pos heq]⟩,junk (by kernel_rfl)⟩;omega)
theorem zqx (ps:List ByteArray) (c:ClearD) (v:Value) (p0 p1 p2 p5 p6:Value) (q b:Int) (A B:Nat) (h:Heap) (hone:(zaq p0 p1 p2 p5 p6 q b).all Am.one=true) (h0:Sl Rep.str h p0 ps) (hs:ps.length≤1000) (hv:Sl Rep.str h v c.reads) (q0:Holds h A (.row (zaq p0 p1 p2 p5 p6 q b) 29 false)) (q1:Holds h B (.row [.string c.who,v] 69 false)) (K:Value→Heap→Prop) (hk:∀ h',Ext h h'→K (.int .i64 (zgD ps c)) h'):Ok Tryz.prog tab ov 82 [.pointer (some ⟨A,0,none⟩),.pointer (some ⟨B,0,none⟩)] h K:=by
 rw [zaa h]
 have z:=Ext.refl h
 refine Ok.into rfl zwL (zaw N82) rfl (m:=4) rfl ?_
 simp -implicitDefEqProofs only [syms,symx,seval,c82,q0.lay,q1.lay,zat,↓zbI,zbz,za0]
 refine zsX ps c v _ _ _ _ _ _ _ _ hone (h0.lay _ _) hs (hv.lay _ _) _ (fun h' x=>?_)
 (replace z:=z.overW x (by omega);rw [zaa h'])
 simp -implicitDefEqProofs only [syms,symx,seval,c82]
 exact hk _ (z.upW _ _ (by omega))
theorem zGg (h:Heap) (l:List Blk) (w i o:Nat) (v:Value) (hi:i < l.length):zaZ tab 69 (.pointer (some ⟨h.size+i,o,none⟩)) v (h.lay l w)=if v.cells.size=2 then zee l[i]? i o v.cells.toList h l w else none:=zfR sz69 h l w i o v hi
theorem zqy (d:PolicyD) (p0 p1 p2 p5 p6:Value) (q b:Int) (h:Heap) (hone:(zaq p0 p1 p2 p5 p6 q b).all Am.one=true) (h0:Sl Rep.str h p0 d.principals) (h2:Sl Rep.clear h p2 d.clears) (hs:d.principals.length≤1000) (hs2:d.clears.length≤1000) (K:Value→Heap→Prop) (hk:∀ h',Ext h h'→K (.int .i64 (zkI d.principals d.clears)) h'):Ok Tryz.prog tab ov 54 [zbN p0 p1 p2 p5 p6 q b] h K:=by
 rw [zaa h]
 have z:=Ext.refl h
 have hva:=za3 p2
 have hvs:=vStr
 have hlv:=fun (hh:Heap)=>h2.lenA ds25 hh
 obtain ⟨F,hF⟩:∃ F:List ClearD→ClearD→Int,F=fun pre c=>za6 [notE (!hasP d.principals c.who) 6,notE (hasP (pre.map ClearD.who) c.who) 5,zgD d.principals c]:=⟨_,rfl⟩
 have hpe:zkI d.principals d.clears=za7 F [] d.clears:=by rw [hF];rfl
 rw [hpe] at hk
 refine Ok.into rfl zwr (zaw N54) rfl (m:=42) rfl ?_
 simp -implicitDefEqProofs only [syms,symx,seval,c54,zfn,zat,pol2,hva,hlv]
 refine zdW (fun h' x hq=>?_)
 have q0:=hq 0 _ rfl
 have q1:=hq 1 _ rfl
 clear hq
 (replace z:=z.overW x (by omega);rw [zaa h'])
 obtain ⟨A0,hA0⟩:∃ A0,A0=h.size+0:=⟨_,rfl⟩
 rw [← hA0] at q0
 rw [← hA0]
 obtain ⟨M,hM⟩:∃ M,M=h.size+1:=⟨_,rfl⟩
 rw [← hM] at q1
 rw [← hM]
 have hAM:A0≠M:=by omega
 obtain ⟨I1,hI1⟩:∃ I:Nat→Env→Heap→Prop,I=(fun n e h'=>∃ (i:Nat) (h1:Heap),h'=h1.lay [] h1.low∧Ext h h1∧(n=d.clears.length - i∧i≤d.clears.length∧Holds h1 A0 (.row (zaq p0 p1 p2 p5 p6 q b) 29 false)∧MapK Value.string h1 M ((d.clears.take i).map ClearD.who)∧za7 F [] d.clears=za7 F (d.clears.take i) (d.clears.drop i))∧∃ J:Nat→Value,e=(J 0::.pointer (some ⟨A0,0,none⟩)::J 2::.map (some M)::jr J 4 7 (p2::.int .i64 d.clears.length::.int .i64 i::jr J 14 29 ([])))):=⟨_,rfl⟩
 refine zaE I1 _ (by rw [hI1];exact ⟨0,_,rfl,z,⟨rfl,by omega,q0,MapK.new q1,rfl⟩,junk (by kernel_rfl)⟩) ?_
 intro n e h' hin
 rw [hI1] at hin
 obtain ⟨i,h1',rfl,z,hinv,J,rfl⟩:=hin
 clear q0 q1
 obtain ⟨rfl,hi,q0,q1,hee⟩:=hinv
 have hw:=zcl i (by omega)
 simp -implicitDefEqProofs only [syms,symx,seval,c54]
 refine zaD (fun hlt=>?_) (fun hlt=>?_)
 rotate_left
 ·rw [hee,zdu (by omega)] at hk
  simp -implicitDefEqProofs only [syms,symx,seval,c54]
  exact hk _ (z.upW _ _ (by omega))
 obtain ⟨r,hr,hr'⟩:=zbs (l:=d.clears) (i:=i) (by omega)
 rw [hee,zbg hr'] at hk
 have hFr:F (d.clears.take i) r=za6 [notE (!hasP d.principals r.who) 6,notE (hasP ((d.clears.take i).map ClearD.who) r.who) 5,zgD d.principals r]:=by rw [hF]
 simp -implicitDefEqProofs only [syms,symx,seval,c54,hva]
 refine zAy (h2.mono z.inc) ds25 sz69 (by omega) hr (fun p v hv hp=>?_)
 have hone2:Am.one v=true:=hv.one
 have hvv:=za3 v
 obtain ⟨av,nv,cv,rfl⟩:=zec hv
 repeat' (first|simp -implicitDefEqProofs only [syms,symx,seval,c54,hvs]|with_reducible_and_instances refine ldP hp ag69 sz69 ?_)
 simp -implicitDefEqProofs only [syms,symx,seval,c54,zbA,zaS,List.all_cons,List.all_nil,Am.one,Bool.and_true,Bool.true_and,Bool.and_self,List.set_cons_zero,List.set_cons_succ,st4,st3,st9,st39,st42,zGg,zeE,hvs]
 refine zha q1 zjT ds9q zuG ?_
 simp -implicitDefEqProofs only [syms,symx,seval,c54,zbA,zaS,List.all_cons,List.all_nil,Am.one,Bool.and_true,Bool.true_and,Bool.and_self,List.set_cons_zero,List.set_cons_succ,st4,st3,st9,st39,st42,zhg]
 rw [zcc]
 simp -implicitDefEqProofs only [syms,symx,seval,c54,zbA,zaS,List.all_cons,List.all_nil,Am.one,Bool.and_true,Bool.true_and,Bool.and_self,List.set_cons_zero,List.set_cons_succ,st4,st3,st9,st39,st42,zhg]
 clear hp
 simp -implicitDefEqProofs only [syms,symx,seval,c54,q0.lay,zeL,zfP,hvs,zat,↓zbI,zbz,za0]
 refine zcz d.principals r.who _ _ _ _ _ _ _ _ ((h0.mono z.inc).lay _ _) hs _ (fun h' x=>?_)
 have e0:=Holds.top (i:=0) x rfl
 (replace z:=z.overW x (by omega);(replace q0:=q0.over x);(replace q1:=q1.over x);(replace hv:=hv.over x);rw [zaa h'])
 obtain ⟨E0,hE0⟩:∃ E0,E0=h1'.size+0:=⟨_,rfl⟩
 rw [← hE0] at e0
 rw [← hE0]
 simp -implicitDefEqProofs only [syms,symx,seval,c54]
 (with_reducible_and_instances apply zar);(· rfl)
 simp -implicitDefEqProofs only [syms,symx,seval,c54]
 refine zbp _ _ _ _ (fun h' f1 x r1=>?_)
 (replace z:=z.overW x (by omega);(replace q0:=q0.over x);(replace q1:=q1.over x);(replace e0:=e0.over x);(replace hv:=hv.over x);rw [zaa h'])
 simp -implicitDefEqProofs only [syms,symx,seval,c54]
 refine zbp _ _ _ _ (fun h' f2 x r2=>?_)
 (replace z:=z.overW x (by omega);(replace q0:=q0.over x);(replace q1:=q1.over x);(replace e0:=e0.over x);(replace hv:=hv.over x);(replace r1:=r1.over x);rw [zaa h'])
 have r3:RuleF h' (.func (.func 82) ⟨[]⟩ ⟨[.pointer (some ⟨A0,0,none⟩),.pointer (some ⟨E0,0,none⟩)]⟩) (zgD d.principals r):=⟨⟨_,_,_,rfl⟩,fun hc K2 y hk2=>by
  rw [zbR]
  exact zqx d.principals r _ _ _ _ _ _ _ _ A0 E0 hc hone ((h0.mono z.inc).mono y.all) hs (hv.mono y.all) (Holds.frs0 q0 y) (Holds.frs0 e0 y) K2 hk2⟩
 obtain ⟨k1,u1,v1,rfl⟩:=r1.1
 obtain ⟨k2,u2,v2,rfl⟩:=r2.1
 simp -implicitDefEqProofs only [syms,symx,seval,c54]
 refine zce [.func k1 u1 v1,.func k2 u2 v2,.func (.func 82) ⟨[]⟩ ⟨[.pointer (some ⟨A0,0,none⟩),.pointer (some ⟨E0,0,none⟩)]⟩] [notE (!hasP d.principals r.who) 6,notE (hasP ((d.clears.take i).map ClearD.who) r.who) 5,zgD d.principals r] _ _ (zfQ (i:=0) rfl rfl rfl (by simp)) (by simp) rfl (fun i fv e h1 h2=>?_) _ (fun h' x=>?_)
 ·match i,h1,h2 with
  |0,h1,h2=>cases h1;cases h2;exact r1.lay _ _
  |1,h1,h2=>cases h1;cases h2;exact r2.lay _ _
  |2,h1,h2=>cases h1;cases h2;exact r3.lay _ _
 (replace z:=z.overW x (by omega);(replace q0:=q0.over x);(replace q1:=q1.over x);(replace e0:=e0.over x);(replace hv:=hv.over x);(replace r1:=r1.over x);(replace r2:=r2.over x);rw [zaa h'])
 rw [← hFr]
 clear r1 r2 r3
 simp -implicitDefEqProofs only [syms,symx,seval,c54]
 refine zdS (fun hne=>?_) (fun heq=>?_)
 ·rw [if_neg hne] at hk
  simp -implicitDefEqProofs only [syms,symx,seval,c54]
  exact hk _ (z.upW _ _ (by omega))
 rw [if_pos heq] at hk
 have hMs:h.size≤M:=by omega
 simp -implicitDefEqProofs only [syms,symx,seval,c54,e0.lay,zeL,hvs,znz,zeF]
 refine zls q1 zjT ds9q (fun h3 q3 cg3=>?_)
 replace z:=z.stepW cg3 hMs (by omega)
 replace q0:=q0.stepL cg3 hAM
 rw [zaa h3]
 simp -implicitDefEqProofs only [syms,symx,seval,c54]
 rw [hw]
 have htk:(d.clears.take (i+1)).map ClearD.who=(d.clears.take i).map ClearD.who++[r.who]:=by rw [List.take_add_one,hr'];simp
 rw [← htk] at q3
 (rw [hI1];with_reducible refine zae (m:=_) ?_ ⟨i+1,_,rfl,z,⟨rfl,by omega,q0,q3,by rw [hee,zbg hr',if_pos heq]⟩,junk (by kernel_rfl)⟩;omega)
theorem zmY (a:AtomD):a.val.cells.size=11:=rfl
theorem zmq (a:AtomD):a.cells.length=11:=rfl
theorem zmE (a:AtomD):a.cells.all Am.one=true:=rfl
theorem zr2 (z0 z1 z2 z3 z4 z5 z6 z7 z8 z9 z10:Value):List.drop 11 [z0,z1,z2,z3,z4,z5,z6,z7,z8,z9,z10]=[]:=rfl
theorem zxl:decide (11≤11)=true:=rfl
theorem zoj {d:PolicyD} (h:d.quota < 0∨1000 < d.quota∨d.budget < 1∨1048576 < d.budget∨64 < d.rules.length+d.grants.length):zdK d=notE true 4:=by
 unfold zdK
 congr 1
 simp only [Bool.or_eq_true,decide_eq_true_eq]
 omega
theorem zmw {d:PolicyD} (h:¬ (d.quota < 0∨1000 < d.quota∨d.budget < 1∨1048576 < d.budget∨64 < d.rules.length+d.grants.length)):zdK d=notE false 4:=by
 unfold zdK
 congr 1
 simp only [Bool.or_eq_false_iff,decide_eq_false_iff_not]
 omega
theorem zoo (d:PolicyD) (p0 p1 p2 p5 p6:Value) (q b:Int) (h:Heap) (hq:d.quota=q) (hb:d.budget=b) (h5:Sl Rep.clause h p5 d.rules) (h6:Sl Rep.grant h p6 d.grants) (hs5:d.rules.length≤1000) (hs6:d.grants.length≤1000) (K:Value→Heap→Prop) (hk:∀ h',Ext h h'→K (.int .i64 (zdK d)) h'):Ok Tryz.prog tab ov 55 [zbN p0 p1 p2 p5 p6 q b] h K:=by
 rw [zaa h]
 have z:=Ext.refl h
 have hv5:=za3 p5
 have hv6:=za3 p6
 have hl5:=fun (hh:Heap)=>h5.lenA ds26 hh
 have hl6:=fun (hh:Heap)=>h6.lenA ds27 hh
 have hw:IntKind.i64.wrap ((d.rules.length:Int)+(d.grants.length:Int))=((d.rules.length+d.grants.length:Nat):Int):=by rw [wrap_i64 (by omega) (by omega)];omega
 refine Ok.into rfl zws (zaw N55) rfl (m:=38) rfl ?_
 simp -implicitDefEqProofs only [syms,symx,seval,c55,zat,pol3,pol4,pol5,pol6,hv5,hv6,hl5,hl6,hw]
 repeat' ((with_reducible refine zaD (fun _=>?_) (fun _=>?_)) <;> simp -implicitDefEqProofs only [syms,symx,seval,c55,zat,pol3,pol4,pol5,pol6,hv5,hv6,hl5,hl6,hw])
 all_goals
  refine zbp _ _ _ _ (fun h' f1 x r1=>?_)
  (replace z:=z.overW x (by omega);rw [zaa h'])
  obtain ⟨k1,u1,v1,rfl⟩:=r1.1
  simp -implicitDefEqProofs only [syms,symx,seval,c55]
  refine r1.2 _ _ (Frs.lay _ _ _ _) (fun h' x=>?_)
  (replace z:=z.overW x (by omega);rw [zaa h'])
  first
   |rw [zoj (by omega)] at hk
   |rw [zmw (by omega)] at hk
  simp -implicitDefEqProofs only [syms,symx,seval,c55]
  exact hk _ (z.upW _ _ (by omega))
theorem zqv (d:PolicyD) (a:AtomD) (p0 p1 p2 p5 p6:Value) (q b:Int) (A B:Nat) (h:Heap) (hsp:SpaceAt 1 h) (hone:(zaq p0 p1 p2 p5 p6 q b).all Am.one=true) (h0:Sl Rep.str h p0 d.principals) (h1:Sl Rep.pred h p1 d.preds) (hs:d.principals.length≤1000) (q0:Holds h A (.row (zaq p0 p1 p2 p5 p6 q b) 29 false)) (q1:Holds h B (.row a.cells 42 false)) (K:Value→Heap→Prop) (hk:∀ h',Ext h h'→K (.int .i64 (zdE d a)) h'):Ok Tryz.prog tab ov 113 [.pointer (some ⟨A,0,none⟩),.pointer (some ⟨B,0,none⟩)] h K:=by
 rw [zaa h]
 have z:=Ext.refl h
 refine Ok.into rfl ztM (zaw N113) rfl (m:=4) rfl ?_
 simp -implicitDefEqProofs only [syms,symx,seval,c113,q0.lay,q1.lay,zat,↓zbI,zbz,za0,zas,↓zaF,zaA,zal]
 refine zla d a _ _ _ _ _ _ _ _ (hsp.lay _ _) hone (h0.lay _ _) (h1.lay _ _) hs _ (fun h' x=>?_)
 (replace z:=z.overW x (by omega);rw [zaa h'])
 simp -implicitDefEqProofs only [syms,symx,seval,c113]
 exact hk _ (z.upW _ _ (by omega))
theorem zqw (d:PolicyD) (l:List AtomD) (v:Value) (p0 p1 p2 p5 p6:Value) (q b:Int) (A B:Nat) (h:Heap) (hsp:SpaceAt 1 h) (hone:(zaq p0 p1 p2 p5 p6 q b).all Am.one=true) (h0:Sl Rep.str h p0 d.principals) (h1:Sl Rep.pred h p1 d.preds) (hs:d.principals.length≤1000) (hl:Sl Rep.atom h v l) (hs2:l.length≤1000) (q0:Holds h A (.row (zaq p0 p1 p2 p5 p6 q b) 29 false)) (q1:Holds h B (.row [v] 52 false)) (K:Value→Heap→Prop) (hk:∀ h',Ext h h'→K (.int .i64 (zkF d l)) h'):Ok Tryz.prog tab ov 114 [.pointer (some ⟨B,0,none⟩),.pointer (some ⟨A,0,none⟩)] h K:=by
 rw [zaa h]
 have z:=Ext.refl h
 have hva:=za3 v
 have hlv:=fun (hh:Heap)=>hl.lenA ds52 hh
 obtain ⟨F,hF⟩:∃ F:List AtomD→AtomD→Int,F=fun _ a=>zdE d a:=⟨_,rfl⟩
 have hpe:zkF d l=za7 F [] l:=by rw [hF];rfl
 rw [hpe] at hk
 refine Ok.into rfl ztN (zaw N114) rfl (m:=17) rfl ?_
 simp -implicitDefEqProofs only [syms,symx,seval,c114,q1.lay,hva,hlv]
 obtain ⟨I1,hI1⟩:∃ I:Nat→Env→Heap→Prop,I=(fun n e h'=>∃ (i:Nat) (h1:Heap),h'=h1.lay [] h1.low∧Ext h h1∧(n=l.length - i∧i≤l.length∧Holds h1 A (.row (zaq p0 p1 p2 p5 p6 q b) 29 false)∧za7 F [] l=za7 F (l.take i) (l.drop i))∧∃ J:Nat→Value,e=(J 0::.pointer (some ⟨A,0,none⟩)::jr J 2 4 (v::.int .i64 l.length::.int .i64 i::jr J 9 10 ([])))):=⟨_,rfl⟩
 refine zaE I1 _ (by rw [hI1];exact ⟨0,_,rfl,z,⟨rfl,by omega,q0,rfl⟩,junk (by kernel_rfl)⟩) ?_
 intro n e h' hin
 rw [hI1] at hin
 obtain ⟨i,h1',rfl,z,hinv,J,rfl⟩:=hin
 clear q0
 obtain ⟨rfl,hi,q0,hee⟩:=hinv
 have hw:=zcl i (by omega)
 simp -implicitDefEqProofs only [syms,symx,seval,c114]
 refine zaD (fun hlt=>?_) (fun hlt=>?_)
 rotate_left
 ·rw [hee,zdu (by omega)] at hk
  simp -implicitDefEqProofs only [syms,symx,seval,c114]
  exact hk _ (z.upW _ _ (by omega))
 obtain ⟨r,hr,hr'⟩:=zbs (l:=l) (i:=i) (by omega)
 rw [hee,zbg hr'] at hk
 have hFr:F (l.take i) r=zdE d r:=by rw [hF]
 simp -implicitDefEqProofs only [syms,symx,seval,c114,hva]
 repeat' ((first|with_reducible_and_instances refine zj3 (hl.mono z.inc) ds52 sz42 (by omega) hr (fun p hp=>?_)|with_reducible_and_instances refine lda hp ag42 sz42 ?_) <;> simp -implicitDefEqProofs only [syms,symx,seval,c114,hva])
 clear hp
 simp -implicitDefEqProofs only [syms,symx,seval,c114,zbA,zaS,List.all_cons,List.all_nil,Am.one,Bool.and_true,Bool.true_and,Bool.and_self,List.set_cons_zero,List.set_cons_succ,st4,st3,st9,st39,st42,zmY,zmq,zmE,zr2,zxl,List.append_nil,if_true,q0.lay,zat,↓zbI,zbz,za0,zas,↓zaF,zaA,zal]
 refine zla d r _ _ _ _ _ _ _ _ ((hsp.ext z).lay _ _) hone ((h0.mono z.inc).lay _ _) ((h1.mono z.inc).lay _ _) hs _ (fun h' x=>?_)
 (replace z:=z.overW x (by omega);(replace q0:=q0.over x);rw [zaa h'])
 rw [← hFr]
 simp -implicitDefEqProofs only [syms,symx,seval,c114]
 refine zdS (fun hne=>?_) (fun heq=>?_)
 ·rw [if_neg hne] at hk
  simp -implicitDefEqProofs only [syms,symx,seval,c114]
  exact hk _ (z.upW _ _ (by omega))
 rw [if_pos heq] at hk
 simp -implicitDefEqProofs only [syms,symx,seval,c114]
 rw [hw]
 (rw [hI1];with_reducible refine zae (m:=_) ?_ ⟨i+1,_,rfl,z,⟨rfl,by omega,q0,by rw [hee,zbg hr',if_pos heq]⟩,junk (by kernel_rfl)⟩;omega)
theorem zj7 (d:PolicyD) (a:AtomD) (l:List AtomD) (v:Value) (p0 p1 p2 p5 p6:Value) (q b:Int) (h:Heap) (hsp:SpaceAt 1 h) (hone:(zaq p0 p1 p2 p5 p6 q b).all Am.one=true) (h0:Sl Rep.str h p0 d.principals) (h1:Sl Rep.pred h p1 d.preds) (hs:d.principals.length≤1000) (hl:Sl Rep.atom h v l) (hs2:l.length≤1000) (K:Value→Heap→Prop) (hk:∀ h',Ext h h'→K (.int .i64 (zcr d a l)) h'):Ok Tryz.prog tab ov 85 [zbN p0 p1 p2 p5 p6 q b,a.val,v] h K:=by
 rw [zaa h]
 have z:=Ext.refl h
 have hva:=za3 v
 have hlv:=fun (hh:Heap)=>hl.lenA ds52 hh
 obtain ⟨av,nv,cv,rfl⟩:=zec hl
 refine Ok.into rfl zwO (zaw N85) rfl (m:=12) rfl ?_
 simp -implicitDefEqProofs only [syms,symx,seval,c85,zat,zas,hva,hlv]
 rw [zcc]
 simp -implicitDefEqProofs only [syms,symx,seval,c85,hva,hlv]
 refine zbp _ _ _ _ (fun h' f1 x r1=>?_)
 have q0:=Holds.top (i:=0) x rfl
 have q1:=Holds.top (i:=1) x rfl
 have q2:=Holds.top (i:=2) x rfl
 (replace z:=z.overW x (by omega);rw [zaa h'])
 obtain ⟨A0,hA0⟩:∃ A0,A0=h.size+0:=⟨_,rfl⟩
 rw [← hA0] at q0
 rw [← hA0]
 obtain ⟨A1,hA1⟩:∃ A1,A1=h.size+1:=⟨_,rfl⟩
 rw [← hA1] at q1
 rw [← hA1]
 obtain ⟨A2,hA2⟩:∃ A2,A2=h.size+2:=⟨_,rfl⟩
 rw [← hA2] at q2
 rw [← hA2]
 have r0:RuleF h' (.func (.func 113) ⟨[]⟩ ⟨[.pointer (some ⟨A0,0,none⟩),.pointer (some ⟨A1,0,none⟩)]⟩) (zdE d a):=⟨⟨_,_,_,rfl⟩,fun hc K2 y hk2=>by
  rw [zbR]
  exact zqv d a _ _ _ _ _ _ _ A0 A1 hc (Holds.frs0 (hsp.ext z) y) hone ((h0.mono z.inc).mono y.all) ((h1.mono z.inc).mono y.all) hs (Holds.frs0 q0 y) (Holds.frs0 q1 y) K2 hk2⟩
 have r2:RuleF h' (.func (.func 114) ⟨[]⟩ ⟨[.pointer (some ⟨A2,0,none⟩),.pointer (some ⟨A0,0,none⟩)]⟩) (zkF d l):=⟨⟨_,_,_,rfl⟩,fun hc K2 y hk2=>by
  rw [zbR]
  exact zqw d l _ _ _ _ _ _ _ _ A0 A2 hc (Holds.frs0 (hsp.ext z) y) hone ((h0.mono z.inc).mono y.all) ((h1.mono z.inc).mono y.all) hs ((hl.mono z.inc).mono y.all) hs2 (Holds.frs0 q0 y) (Holds.frs0 q2 y) K2 hk2⟩
 obtain ⟨k1,u1,v1,rfl⟩:=r1.1
 simp -implicitDefEqProofs only [syms,symx,seval,c85]
 refine zce [.func (.func 113) ⟨[]⟩ ⟨[.pointer (some ⟨A0,0,none⟩),.pointer (some ⟨A1,0,none⟩)]⟩,.func k1 u1 v1,.func (.func 114) ⟨[]⟩ ⟨[.pointer (some ⟨A2,0,none⟩),.pointer (some ⟨A0,0,none⟩)]⟩] [zdE d a,notE (decide (6 < l.length)) 4,zkF d l] _ _ (zfQ (i:=0) rfl rfl rfl (by simp)) (by simp) rfl (fun i fv e h1 h2=>?_) _ (fun h' x=>?_)
 ·match i,h1,h2 with
  |0,h1,h2=>cases h1;cases h2;exact r0.lay _ _
  |1,h1,h2 =>
   cases h1;cases h2
   have e:decide (6 < l.length)=decide ((l.length:Int) > 6):=by rw [Bool.eq_iff_iff,decide_eq_true_iff,decide_eq_true_iff];omega
   rw [e]
   exact r1.lay _ _
  |2,h1,h2=>cases h1;cases h2;exact r2.lay _ _
 (replace z:=z.overW x (by omega);(replace q0:=q0.over x);(replace q1:=q1.over x);(replace q2:=q2.over x);(replace r1:=r1.over x);rw [zaa h'])
 simp -implicitDefEqProofs only [syms,symx,seval,c85]
 exact hk _ (z.upW _ _ (by omega))
theorem zov (a:AtomD) (v:Value):(a.cells++[v])[11]? = some v:=rfl
theorem zAQ (a:AtomD) (v:Value):cut (a.cells++[v]) 0 11=some a.cells:=rfl
theorem zGh:zed tab 23 23=true:=by kernel_rfl
theorem zmC (l:List ByteArray) (v fv:Value) (pr:ByteArray→Bool) (h:Heap) (hl:Sl Rep.str h v l) (hs:l.length≤1000) (hpf:∀ (x:ByteArray) (hc:Heap) (K:Value→Heap→Prop),Ext h hc→(∀ h',Ext hc h'→K (.bool (pr x)) h')→zgS Tryz.prog tab ov [.string x] hc K fv) (K:Value→Heap→Prop)
 (hk:∀ h',Ext h h'→K (.int .i64 (idxP pr l)) h'):Ok Tryz.prog tab ov 138 [v,fv] h K:=by
 rw [zaa h]
 have z:=Ext.refl h
 have hva:=za3 v
 have hvs:=vStr
 have hlv:=fun (hh:Heap)=>hl.lenA ds23 hh
 refine Ok.into rfl zt4 (zaw N138) rfl (m:=17) rfl ?_
 simp -implicitDefEqProofs only [syms,symx,seval,c138,hva,hlv]
 obtain ⟨I1,hI1⟩:∃ I:Nat→Env→Heap→Prop,I=(fun n e h'=>∃ (i:Nat) (h1:Heap),h'=h1.lay [] h1.low∧Ext h h1∧(n=l.length - i∧i≤l.length∧∀ x∈l.take i,pr x=false)∧∃ J:Nat→Value,e=(v::fv::jr J 2 5 (.int .i64 l.length::.int .i64 i::jr J 9 10 ([])))):=⟨_,rfl⟩
 refine zaE I1 _ (by rw [hI1];exact ⟨0,_,rfl,z,⟨rfl,by omega,by simp⟩,junk (by kernel_rfl)⟩) ?_
 intro n e h' hin
 rw [hI1] at hin
 obtain ⟨i,h1',rfl,z,hinv,J,rfl⟩:=hin
 obtain ⟨rfl,hi,hall⟩:=hinv
 have hw:=zcl i (by omega)
 simp -implicitDefEqProofs only [syms,symx,seval,c138]
 refine zaD (fun hlt=>?_) (fun hlt=>?_)
 rotate_left
 ·rw [List.take_of_length_le (by omega)] at hall
  have:=zkX hall
  rw [this] at hk
  simp -implicitDefEqProofs only [syms,symx,seval,c138]
  exact hk _ (z.upW _ _ (by omega))
 obtain ⟨r,hr,hr'⟩:=zbs (l:=l) (i:=i) (by omega)
 simp -implicitDefEqProofs only [syms,symx,seval,c138,hva]
 repeat' ((first|with_reducible_and_instances refine zhs (hl.mono z.inc) ds23 sz9 (by omega) hr (fun p hp=>?_)|with_reducible_and_instances refine zfO hp ag9 ?_) <;> simp -implicitDefEqProofs only [syms,symx,seval,c138,hva,hvs])
 refine hpf _ _ _ (z.upW _ _ (by omega)) (fun h' x=>?_)
 (replace z:=z.overW x (by omega);rw [zaa h'])
 clear hp
 cases hx:pr r
 rotate_left
 ·simp -implicitDefEqProofs only [syms,symx,seval,c138]
  have:=zin hr' hall hx
  rw [this] at hk
  exact hk _ (z.upW _ _ (by omega))
 ·simp -implicitDefEqProofs only [syms,symx,seval,c138]
  rw [hw]
  (rw [hI1];with_reducible refine zae (m:=_) ?_ ⟨i+1,_,rfl,z,⟨rfl,by omega,zeC (i:=i) (P:=fun x:ByteArray=>pr x=false) hr' hall hx⟩,junk (by kernel_rfl)⟩;omega)
theorem ziy (l:List ByteArray) (v fv:Value) (pr:ByteArray→Bool) (h:Heap) (hl:Sl Rep.str h v l) (hs:l.length≤1000) (hpf:∀ (x:ByteArray) (hc:Heap) (K:Value→Heap→Prop),Ext h hc→(∀ h',Ext hc h'→K (.bool (pr x)) h')→zgS Tryz.prog tab ov [.string x] hc K fv) (K:Value→Heap→Prop)
 (hk:∀ h',Ext h h'→K (.bool (l.any pr)) h'):Ok Tryz.prog tab ov 116 [v,fv] h K:=by
 refine Ok.into rfl ztP (zaw N116) rfl (m:=7) rfl ?_
 simp -implicitDefEqProofs only [syms,symx,seval,c116]
 refine zmC l v fv pr h hl hs hpf _ (fun h' x=>?_)
 simp -implicitDefEqProofs only [syms,symx,seval,c116,zn9]
 refine zvb (fun hh=>?_) (fun hh=>?_)
 all_goals
  simp -implicitDefEqProofs only [syms,symx,seval,c116]
  rw [hh] at hk
  exact hk _ x
theorem zqI (l:List ByteArray) (s:ByteArray) (w:Value) (C:Nat) (h:Heap) (q:Holds h C (.row [w] 23 false)) (hl:Sl Rep.str h w l) (hs:l.length≤1000) (K:Value→Heap→Prop) (hk:∀ h',Ext h h'→K (.bool (!hasP l s)) h'):Ok Tryz.prog tab ov 117 [.string s,.pointer (some ⟨C,0,none⟩)] h K:=by
 rw [zaa h]
 have z:=Ext.refl h
 have hvw:=za3 w
 have hvs:=vStr
 refine Ok.into rfl ztQ (zaw N117) rfl (m:=6) rfl ?_
 simp -implicitDefEqProofs only [syms,symx,seval,c117,q.lay,hvw,hvs]
 refine zb4 l w s _ (hl.lay _ _) hs _ (fun h' x=>?_)
 (replace z:=z.overW x (by omega);rw [zaa h'])
 simp -implicitDefEqProofs only [syms,symx,seval,c117]
 (with_reducible_and_instances apply zar);(· rfl)
 simp -implicitDefEqProofs only [syms,symx,seval,c117]
 exact hk _ (z.upW _ _ (by omega))
open Classical in
theorem zqV {c:ClauseD} {l m:List ByteArray} (hl:∀ x,x∈l↔zlt c.head x) (hm:∀ x,x∈m↔∃ a∈c.body,zlt a x):zez c=notE (l.any fun v => !hasP m v) 9:=by
 unfold zez
 congr 1
 rw [Bool.eq_iff_iff,decide_eq_true_iff,List.any_eq_true]
 constructor
 ·rintro ⟨x,h1,h2⟩
  refine ⟨x,(hl x).2 h1,?_⟩
  have:hasP m x=false:=Bool.eq_false_iff.2 (fun hh=>by
   obtain ⟨a,ha,hv⟩:=(hm x).1 (hasP_iff.1 hh)
   exact h2 a ha hv)
  rw [this];rfl
 ·rintro ⟨x,h1,h2⟩
  refine ⟨x,(hl x).1 h1,fun a ha hv=>?_⟩
  have:hasP m x=true:=hasP_iff.2 ((hm x).2 ⟨a,ha,hv⟩)
  rw [this] at h2
  simp at h2
theorem zqJ (c:ClauseD) (v:Value) (h:Heap) (hl:Sl Rep.atom h v c.body) (hs:c.body.length≤200) (K:Value→Heap→Prop) (hk:∀ h',Ext h h'→K (.int .i64 (zez c)) h'):Ok Tryz.prog tab ov 87 [.agg ⟨c.head.cells++[v]⟩] h K:=by
 rw [zaa h]
 have z:=Ext.refl h
 have hva:=za3 v
 have hlv:=fun (hh:Heap)=>hl.lenA ds52 hh
 refine Ok.into rfl zwQ (zaw N87) rfl (m:=26) rfl ?_
 simp -implicitDefEqProofs only [syms,symx,seval,c87,zov,hva,hlv]
 refine zdW (fun h' x hq=>?_)
 have q0:=hq 0 _ rfl
 have q1:=hq 1 _ rfl
 clear hq
 (replace z:=z.overW x (by omega);rw [zaa h'])
 obtain ⟨A0,hA0⟩:∃ A0,A0=h.size+0:=⟨_,rfl⟩
 rw [← hA0] at q0
 rw [← hA0]
 obtain ⟨C,hC⟩:∃ C,C=h.size+1:=⟨_,rfl⟩
 rw [← hC] at q1
 rw [← hC]
 obtain ⟨I1,hI1⟩:∃ I:Nat→Env→Heap→Prop,I=(fun n e h'=>∃ (i:Nat) (wv:Value) (A:Nat) (have_:List ByteArray) (h1:Heap),h'=h1.lay [] h1.low∧Ext h h1∧(n=c.body.length - i∧i≤c.body.length∧Holds h1 A0 (.row (c.head.cells++[v]) 71 false)∧Holds h1 C (.row [wv] 23 false)∧Ow Rep.str h h1 9 A wv have_∧C < A∧have_.length≤4*i∧(∀ x,x∈have_↔∃ a∈c.body.take i,zlt a x))∧∃ J:Nat→Value,e=(J 0::.pointer (some ⟨A0,0,none⟩)::J 2::.pointer (some ⟨C,0,none⟩)::jr J 4 4 (v::.int .i64 c.body.length::.int .i64 i::jr J 11 16 ([])))):=⟨_,rfl⟩
 refine zaE I1 _ (by rw [hI1];exact ⟨0,.slice none 0 0,C+1,[],_,rfl,z,⟨rfl,by omega,q0,q1,Ow.nil (by omega),by omega,by simp,by simp⟩,junk (by kernel_rfl)⟩) ?_
 intro n e h' hin
 rw [hI1] at hin
 obtain ⟨i,wv,A,have_,h1',rfl,z,hinv,J,rfl⟩:=hin
 clear q0 q1
 obtain ⟨rfl,hi,q0,q1,ow,hCA,hhl,hmem⟩:=hinv
 have hw:=zcl i (by omega)
 have hvw:=za3 wv
 simp -implicitDefEqProofs only [syms,symx,seval,c87]
 refine zaD (fun hlt=>?_) (fun hlt=>?_)
 ·obtain ⟨r,hr,hr'⟩:=zbs (l:=c.body) (i:=i) (by omega)
  simp -implicitDefEqProofs only [syms,symx,seval,c87,hva]
  repeat' ((first|with_reducible_and_instances refine zj3 (hl.mono z.inc) ds52 sz42 (by omega) hr (fun p hp=>?_)|with_reducible_and_instances refine lda hp ag42 sz42 ?_) <;> simp -implicitDefEqProofs only [syms,symx,seval,c87,hva])
  clear hp
  simp -implicitDefEqProofs only [syms,symx,seval,c87,zbA,zaS,List.all_cons,List.all_nil,Am.one,Bool.and_true,Bool.true_and,Bool.and_self,List.set_cons_zero,List.set_cons_succ,st4,st3,st9,st39,st42,zas,zmY,zmq,zmE,zr2,zxl,List.append_nil,if_true]
  with_reducible first|refine zb9 (by simp only [c87]) (z.upW _ _ (by omega)) ?_
  simp -implicitDefEqProofs only [syms,symx,seval,c87,q1.lay,hvw,↓zaF,zaA,zal]
  refine zpq r _ _ (fun w2 l2 h' x s2 hl2 hm2=>?_)
  (((with_reducible refine zah ?_ ?_ ?_);(· exact (by (simp only [lsz]);have:=z.size;omega));(· exact x));replace z:=z.overW x (by omega);(replace q0:=q0.over x);(replace q1:=q1.over x);(replace ow:=ow.over x);rw [zaa h'])
  have hvw2:=za3 w2
  simp -implicitDefEqProofs only [syms,symx,seval,c87,hvw2,zcU,zGh]
  have hz:=z.size
  have hlo:=ow.fresh
  have hq1:=q1.lt
  obtain ⟨news,hs1,hsr1⟩:=zpC (A:=A) (r:=Rep.str) (by decide) (s2.lay [] (h'.size+0)) (fun cs y hr=>hr)
  obtain ⟨w3,h3,A3,g1,o3,cg3,g4,g5⟩:=zlF (t:=23) ds23 zeg rfl (by decide) (by rw [zad];omega) (ow.mono (Inc.lay _ _ _)) hs1 hsr1 (by omega) (by omega)
  rw [g1]
  have hA3:C < A3:=by
   rcases g4 with e|e
   ·omega
   ·rw [zad] at e;omega
  refine zaU (A:=A) (by kernel_rfl) (by rw [zad];omega) (by omega) (by simpa only [zan,zad,List.append_nil,List.length_cons,List.length_nil,Nat.add_zero] using cg3) ?_
  replace q0:=q0.stepL cg3 (by omega)
  replace q1:=q1.stepL cg3 (by omega)
  replace z:=(z.upW [] (h'.size+0) (by omega)).step cg3 (by omega)
  clear ow s2
  rw [zaa h3]
  have hone3:Am.one w3=true:=(o3.sl (by decide)).one
  obtain ⟨a3,n3,c3,rfl⟩:=zec (o3.sl (by decide))
  simp -implicitDefEqProofs only [syms,symx,seval,c87]
  refine zjj q1 sz23 rfl rfl rfl (fun h4 q4 c4=>?_)
  have hz3:=z.size
  replace q4:Holds h4 C (.row [.slice a3 n3 c3] 23 false):=q4
  refine zaU (A:=C) (by kernel_rfl) (by rw [zad];omega) (by omega) (by simpa only [zan,zad,List.append_nil,List.length_cons,List.length_nil,Nat.add_zero] using c4) ?_
  replace q0:=q0.stepL c4 (by omega)
  replace o3:=(o3.mono (Inc.lay h3 [] (h3.size+0))).turn (fun _ _ _ _ h=>h) c4 (by omega) q4
  replace z:=(z.upW [] (h3.size+0) (by omega)).step c4 (by omega)
  clear q1
  rw [zaa h4]
  simp -implicitDefEqProofs only [syms,symx,seval,c87]
  ((with_reducible refine ⟨z.grw.lay _ _,?_⟩);(intro _ h' zz x _);(simp only [zan,List.append_nil] at x);(replace q0:=q0.over x);(replace q4:=q4.over x);(replace o3:=o3.over x);(replace z:=zz);(clear zz);rw [zaa h'])
  simp -implicitDefEqProofs only [syms,symx,seval,c87]
  rw [hw]
  have htk:c.body.take (i+1)=c.body.take i++[r]:=by rw [List.take_add_one,hr'];rfl
  (rw [hI1];with_reducible refine zae (m:=_) ?_ ⟨i+1,.slice a3 n3 c3,A3,have_++l2,_,rfl,z,⟨rfl,by omega,q0,q4,o3,hA3,by rw [List.length_append];omega,fun x=>by rw [List.mem_append,hmem,hm2,htk];simp [or_and_right,exists_or]⟩,junk (by kernel_rfl)⟩;omega)
 ·rw [List.take_of_length_le (by omega)] at hmem
  simp -implicitDefEqProofs only [syms,symx,seval,c87,q0.lay,↓zAQ,zaA,zal]
  have sh:=ow.sl (by decide)
  clear ow
  refine zpq c.head _ _ (fun w2 l2 h' x s2 hl2 hm2=>?_)
  (replace z:=z.overW x (by omega);(replace q1:=q1.over x);(replace sh:=sh.over x);rw [zaa h'])
  have hvw2:=za3 w2
  simp -implicitDefEqProofs only [syms,symx,seval,c87,hvw2]
  refine ziy l2 w2 _ (fun v => !hasP have_ v) _ (s2.lay _ _) (by omega) (fun y hc K' xe hK=>by
   rw [zbR]
   exact zqI have_ y wv C hc ((q1.on _ _).ext xe) ((sh.lay _ _).mono xe.inc) (by omega) K' hK) _ (fun h' x=>?_)
  (replace z:=z.overW x (by omega);(replace q1:=q1.over x);(replace sh:=sh.over x);rw [zaa h'])
  simp -implicitDefEqProofs only [syms,symx,seval,c87]
  refine zbp _ _ _ _ (fun h' f1 x r1=>?_)
  (replace z:=z.overW x (by omega);(replace q1:=q1.over x);(replace sh:=sh.over x);rw [zaa h'])
  obtain ⟨k1,u1,v1,rfl⟩:=r1.1
  simp -implicitDefEqProofs only [syms,symx,seval,c87]
  refine r1.2 _ _ (Frs.lay _ _ _ _) (fun h' x=>?_)
  (replace z:=z.overW x (by omega);(replace q1:=q1.over x);(replace sh:=sh.over x);rw [zaa h'])
  rw [zqV hm2 hmem] at hk
  simp -implicitDefEqProofs only [syms,symx,seval,c87]
  exact hk _ (z.upW _ _ (by omega))
theorem zAO (a:AtomD) (v:Value):(a.cells++[v])[0]? = some (.string a.says):=rfl
theorem zAP (a:AtomD) (v:Value):(Value.agg ⟨a.cells++[v]⟩).cells.toList=a.cells++[v]:=rfl
theorem zGd (a:AtomD) (v:Value):(Value.agg ⟨a.cells++[v]⟩).cells.size=12:=rfl
theorem rlen (a:AtomD) (v:Value):(a.cells++[v]).length=12:=rfl
theorem rone (a:AtomD) (x:Option Addr) (n c:Nat):(a.cells++[Value.slice x n c]).all Am.one=true:=rfl
theorem zAS (z0 z1 z2 z3 z4 z5 z6 z7 z8 z9 z10 z11:Value):List.drop 12 [z0,z1,z2,z3,z4,z5,z6,z7,z8,z9,z10,z11]=[]:=rfl
theorem rdec:decide (12≤12)=true:=rfl
theorem zAR (a:AtomD) (v:Value):cut (a.cells++[v]) 0 12=some (a.cells++[v]):=rfl
theorem zAZ (h:Heap) (l:List Blk) (w i o:Nat) (v:Value) (hi:i < l.length):zaZ tab 71 (.pointer (some ⟨h.size+i,o,none⟩)) v (h.lay l w)=if v.cells.size=12 then zee l[i]? i o v.cells.toList h l w else none:=zfR sz71 h l w i o v hi
theorem zAu (s:ByteArray) (a:AtomD) (v:Value):(Value.agg ⟨.string s::(a.cells++[v])⟩).cells.toList=.string s::(a.cells++[v]):=rfl
theorem zEa (s:ByteArray) (a:AtomD) (v:Value):(Value.agg ⟨.string s::(a.cells++[v])⟩).cells.size=13:=rfl
theorem zAv (s:ByteArray) (a:AtomD) (x:Option Addr) (n c:Nat):(Value.string s::(a.cells++[Value.slice x n c])).all Am.one=true:=rfl
theorem zD9 (z0 z1 z2 z3 z4 z5 z6 z7 z8 z9 z10 z11 z12:Value):List.drop 13 [z0,z1,z2,z3,z4,z5,z6,z7,z8,z9,z10,z11,z12]=[]:=rfl
theorem gdec:decide (13≤13)=true:=rfl
theorem glen (s:ByteArray) (a:AtomD) (v:Value):(Value.string s::(a.cells++[v])).length=13:=rfl
theorem zxC (s:ByteArray) (a:AtomD) (v:Value):(Value.string s::(a.cells++[v]))[0]? = some (.string s):=rfl
theorem zxD (s:ByteArray) (a:AtomD) (v:Value):(Value.string s::(a.cells++[v]))[1]? = some (.string a.says):=rfl
theorem zyJ (s:ByteArray) (a:AtomD) (v:Value):(Value.string s::(a.cells++[v]))[12]? = some v:=rfl
theorem gcut (s:ByteArray) (a:AtomD) (v:Value):cut (Value.string s::(a.cells++[v])) 1 11=some a.cells:=rfl
theorem zAX (h:Heap) (l:List Blk) (w i o:Nat) (v:Value) (hi:i < l.length):zaZ tab 73 (.pointer (some ⟨h.size+i,o,none⟩)) v (h.lay l w)=if v.cells.size=13 then zee l[i]? i o v.cells.toList h l w else none:=zfR sz73 h l w i o v hi
theorem zsZ (d:PolicyD) (c:ClauseD) (v:Value) (p0 p1 p2 p5 p6:Value) (q b:Int) (A B:Nat) (h:Heap) (hsp:SpaceAt 1 h) (hone:(zaq p0 p1 p2 p5 p6 q b).all Am.one=true) (h0:Sl Rep.str h p0 d.principals) (h1:Sl Rep.pred h p1 d.preds) (hs:d.principals.length≤1000) (hl:Sl Rep.atom h v c.body) (hs2:c.body.length≤1000) (q0:Holds h A (.row (zaq p0 p1 p2 p5 p6 q b) 29 false)) (q1:Holds h B (.row (c.head.cells++[v]) 71 false)) (K:Value→Heap→Prop) (hk:∀ h',Ext h h'→K (.int .i64 (zcr d c.head c.body)) h'):Ok Tryz.prog tab ov 84 [.pointer (some ⟨A,0,none⟩),.pointer (some ⟨B,0,none⟩)] h K:=by
 rw [zaa h]
 have z:=Ext.refl h
 have hva:=za3 v
 refine Ok.into rfl zwN (zaw N84) rfl (m:=7) rfl ?_
 simp -implicitDefEqProofs only [syms,symx,seval,c84,q0.lay,q1.lay,zat,↓zbI,zbz,za0,↓zAQ,zov,zaA,zal,hva]
 refine zj7 d c.head c.body v _ _ _ _ _ _ _ _ (hsp.lay _ _) hone (h0.lay _ _) (h1.lay _ _) hs (hl.lay _ _) hs2 _ (fun h' x=>?_)
 (replace z:=z.overW x (by omega);rw [zaa h'])
 simp -implicitDefEqProofs only [syms,symx,seval,c84]
 exact hk _ (z.upW _ _ (by omega))
theorem zs0 (c:ClauseD) (v:Value) (B:Nat) (h:Heap) (hl:Sl Rep.atom h v c.body) (hs2:c.body.length≤200) (q1:Holds h B (.row (c.head.cells++[v]) 71 false)) (K:Value→Heap→Prop) (hk:∀ h',Ext h h'→K (.int .i64 (zez c)) h'):Ok Tryz.prog tab ov 86 [.pointer (some ⟨B,0,none⟩)] h K:=by
 rw [zaa h]
 have z:=Ext.refl h
 have hvr:∀ (h:Heap) (K:Value→Heap→Prop),valE (some (.agg (c.head.cells++[v]).toArray)) h K=K (.agg ⟨c.head.cells++[v]⟩) h:=fun _ _=>rfl
 refine Ok.into rfl zwP (zaw N86) rfl (m:=3) rfl ?_
 simp -implicitDefEqProofs only [syms,symx,seval,c86,q1.lay,↓zAR,hvr]
 refine zqJ c v _ (hl.lay _ _) hs2 _ (fun h' x=>?_)
 (replace z:=z.overW x (by omega);rw [zaa h'])
 simp -implicitDefEqProofs only [syms,symx,seval,c86]
 exact hk _ (z.upW _ _ (by omega))
theorem zs1 (d:PolicyD) (g:GrantD) (v:Value) (p0 p1 p2 p5 p6:Value) (q b:Int) (A B:Nat) (h:Heap) (hsp:SpaceAt 1 h) (hone:(zaq p0 p1 p2 p5 p6 q b).all Am.one=true) (h0:Sl Rep.str h p0 d.principals) (h1:Sl Rep.pred h p1 d.preds) (hs:d.principals.length≤1000) (hl:Sl Rep.atom h v g.body) (hs2:g.body.length≤1000) (q0:Holds h A (.row (zaq p0 p1 p2 p5 p6 q b) 29 false)) (q1:Holds h B (.row (.string g.to::(g.head.cells++[v])) 73 false)) (K:Value→Heap→Prop) (hk:∀ h',Ext h h'→K (.int .i64 (zcr d g.head g.body)) h'):Ok Tryz.prog tab ov 88 [.pointer (some ⟨A,0,none⟩),.pointer (some ⟨B,0,none⟩)] h K:=by
 rw [zaa h]
 have z:=Ext.refl h
 have hva:=za3 v
 refine Ok.into rfl zwR (zaw N88) rfl (m:=7) rfl ?_
 simp -implicitDefEqProofs only [syms,symx,seval,c88,q0.lay,q1.lay,zat,↓zbI,zbz,za0,↓gcut,zyJ,zov,zaA,zal,hva]
 refine zj7 d g.head g.body v _ _ _ _ _ _ _ _ (hsp.lay _ _) hone (h0.lay _ _) (h1.lay _ _) hs (hl.lay _ _) hs2 _ (fun h' x=>?_)
 (replace z:=z.overW x (by omega);rw [zaa h'])
 simp -implicitDefEqProofs only [syms,symx,seval,c88]
 exact hk _ (z.upW _ _ (by omega))
theorem zq0 (d:PolicyD):zkd d=if za7 (fun _ c=>zoA d c) [] d.rules=0 then za7 (fun _ g=>zj2 d g) [] d.grants else za7 (fun _ c=>zoA d c) [] d.rules:=by
 unfold zkd
 rw [zeq,zeq,zqe]
 split
 ·split
  ·rename_i h;exact h.symm
  ·rfl
 ·rfl
theorem zs2 (d:PolicyD) (p0 p1 p2 p5 p6:Value) (q b:Int) (h:Heap) (hsp:SpaceAt 1 h) (hone:(zaq p0 p1 p2 p5 p6 q b).all Am.one=true) (h0:Sl Rep.str h p0 d.principals) (h1:Sl Rep.pred h p1 d.preds) (hs:d.principals.length≤1000) (h5:Sl Rep.clause h p5 d.rules) (hs5:d.rules.length≤1000) (hb5:∀ r∈d.rules,r.body.length≤200) (h6:Sl Rep.grant h p6 d.grants) (hs6:d.grants.length≤1000) (hb6:∀ g∈d.grants,g.body.length≤200) (K:Value→Heap→Prop) (hk:∀ h',Ext h h'→K (.int .i64 (zkd d)) h'):Ok Tryz.prog tab ov 56 [zbN p0 p1 p2 p5 p6 q b] h K:=by
 rw [zaa h]
 have z:=Ext.refl h
 have hv5:=za3 p5
 have hv6:=za3 p6
 have hvs:=vStr
 have hl5:=fun (hh:Heap)=>h5.lenA ds26 hh
 have hl6:=fun (hh:Heap)=>h6.lenA ds27 hh
 rw [zq0] at hk
 obtain ⟨F,hF⟩:∃ F:List ClauseD→ClauseD→Int,F=fun _ c=>zoA d c:=⟨_,rfl⟩
 obtain ⟨E,hE⟩:∃ E:List GrantD→GrantD→Int,E=fun _ g=>zj2 d g:=⟨_,rfl⟩
 rw [← hF,← hE] at hk
 refine Ok.into rfl zwt (zaw N56) rfl (m:=50) rfl ?_
 simp -implicitDefEqProofs only [syms,symx,seval,c56,zat,pol5,hv5,hl5]
 refine zdW (fun h' x hq=>?_)
 have q0:=hq 0 _ rfl
 clear hq
 (replace z:=z.overW x (by omega);rw [zaa h'])
 obtain ⟨A0,hA0⟩:∃ A0,A0=h.size+0:=⟨_,rfl⟩
 rw [← hA0] at q0
 rw [← hA0]
 obtain ⟨I1,hI1⟩:∃ I:Nat→Env→Heap→Prop,I=(fun n e h'=>∃ (i:Nat) (h1:Heap),h'=h1.lay [] h1.low∧Ext h h1∧(n=d.rules.length - i∧i≤d.rules.length∧Holds h1 A0 (.row (zaq p0 p1 p2 p5 p6 q b) 29 false)∧za7 F [] d.rules=za7 F (d.rules.take i) (d.rules.drop i))∧∃ J:Nat→Value,e=(J 0::.pointer (some ⟨A0,0,none⟩)::jr J 2 8 (p5::.int .i64 d.rules.length::.int .i64 i::jr J 13 38 ([])))):=⟨_,rfl⟩
 refine zaE I1 _ (by rw [hI1];exact ⟨0,_,rfl,z,⟨rfl,by omega,q0,rfl⟩,junk (by kernel_rfl)⟩) ?_
 intro n e h' hin
 rw [hI1] at hin
 obtain ⟨i,h1',rfl,z,hinv,J,rfl⟩:=hin
 clear q0
 obtain ⟨rfl,hi,q0,hee⟩:=hinv
 have hw:=zcl i (by omega)
 simp -implicitDefEqProofs only [syms,symx,seval,c56]
 refine zaD (fun hlt=>?_) (fun hlt=>?_)
 ·obtain ⟨r,hr,hr'⟩:=zbs (l:=d.rules) (i:=i) (by omega)
  rw [hee,zbg hr'] at hk
  have hFr:F (d.rules.take i) r=za6 [zcr d r.head r.body,zez r]:=by rw [hF];rfl
  have hbr:=hb5 r (List.mem_of_getElem? hr')
  simp -implicitDefEqProofs only [syms,symx,seval,c56,hv5]
  refine zAA (h5.mono z.inc) ds26 sz71 (by omega) hr (fun p v hv hp=>?_)
  obtain ⟨av,nv,cv,rfl⟩:=zec hv
  repeat' (first|simp -implicitDefEqProofs only [syms,symx,seval,c56]|with_reducible_and_instances refine ldc hp ag71 sz71 ?_)
  clear hp
  simp -implicitDefEqProofs only [syms,symx,seval,c56,zbA,zaS,List.all_cons,List.all_nil,Am.one,Bool.and_true,Bool.true_and,Bool.and_self,List.set_cons_zero,List.set_cons_succ,st4,st3,st9,st39,st42,zAZ,zAP,zGd,rlen,rone,zAS,rdec,List.append_nil,if_true]
  have hbk:∀ (bs:List Blk) (w:Nat) (i:Nat) (b:Blk),bs[i]? = some b→Holds (h1'.lay bs w) (h1'.size+i) b:=fun bs w i b hb=>⟨by rw [zad];have:=(List.getElem?_eq_some_iff.1 hb).1;omega,by rw [zbd];exact hb⟩
  refine zce [.func (.func 84) ⟨[]⟩ ⟨[.pointer (some ⟨A0,0,none⟩),.pointer (some ⟨h1'.size+0,0,none⟩)]⟩,.func (.func 86) ⟨[]⟩ ⟨[.pointer (some ⟨h1'.size+0,0,none⟩)]⟩] [zcr d r.head r.body,zez r] _ _ (zfQ (i:=1) rfl rfl rfl (by simp)) (by simp) rfl (fun i fv e g1 g2=>?_) _ (fun h' x=>?_)
  ·match i,g1,g2 with
   |0,g1,g2 =>
    cases g1;cases g2
    exact ⟨⟨_,_,_,rfl⟩,fun hc K2 y hk2=>by
     rw [zbR]
     exact zsZ d r _ _ _ _ _ _ _ _ A0 _ hc (Holds.frs0 ((hsp.ext z).lay _ _) y) hone (((h0.mono z.inc).lay _ _).mono y.all) (((h1.mono z.inc).lay _ _).mono y.all) hs ((hv.lay _ _).mono y.all) (by omega) (Holds.frs0 (q0.on _ _) y) (Holds.frs0 (hbk _ _ 0 _ rfl) y) K2 hk2⟩
   |1,g1,g2 =>
    cases g1;cases g2
    exact ⟨⟨_,_,_,rfl⟩,fun hc K2 y hk2=>by
     rw [zbR]
     exact zs0 r _ _ hc ((hv.lay _ _).mono y.all) hbr (Holds.frs0 (hbk _ _ 0 _ rfl) y) K2 hk2⟩
  (replace z:=z.overW x (by omega);(replace q0:=q0.over x);rw [zaa h'])
  rw [← hFr]
  clear hbk
  simp -implicitDefEqProofs only [syms,symx,seval,c56]
  refine zdS (fun hne=>?_) (fun heq=>?_)
  ·rw [if_neg hne,if_neg hne] at hk
   simp -implicitDefEqProofs only [syms,symx,seval,c56]
   exact hk _ (z.upW _ _ (by omega))
  rw [if_pos heq] at hk
  simp -implicitDefEqProofs only [syms,symx,seval,c56]
  rw [hw]
  (rw [hI1];with_reducible refine zae (m:=_) ?_ ⟨i+1,_,rfl,z,⟨rfl,by omega,q0,by rw [hee,zbg hr',if_pos heq]⟩,junk (by kernel_rfl)⟩;omega)
 rw [hee,zdu (by omega),if_pos rfl] at hk
 clear hee hw hi hlt
 simp -implicitDefEqProofs only [syms,symx,seval,c56,q0.lay,zat,pol6,hv6,hl6]
 obtain ⟨I2,hI2⟩:∃ I:Nat→Env→Heap→Prop,I=(fun n e h'=>∃ (i:Nat) (h1:Heap),h'=h1.lay [] h1.low∧Ext h h1∧(n=d.grants.length - i∧i≤d.grants.length∧Holds h1 A0 (.row (zaq p0 p1 p2 p5 p6 q b) 29 false)∧za7 E [] d.grants=za7 E (d.grants.take i) (d.grants.drop i))∧∃ J:Nat→Value,e=(J 0::.pointer (some ⟨A0,0,none⟩)::jr J 2 23 (p6::.int .i64 d.grants.length::.int .i64 i::jr J 28 23 ([])))):=⟨_,rfl⟩
 refine zaE I2 _ (by rw [hI2];exact ⟨0,_,rfl,z,⟨rfl,by omega,q0,rfl⟩,junk (by kernel_rfl)⟩) ?_
 intro n e h' hin
 rw [hI2] at hin
 obtain ⟨i,h1',rfl,z,hinv,J,rfl⟩:=hin
 clear q0
 obtain ⟨rfl,hi,q0,hee⟩:=hinv
 have hw:=zcl i (by omega)
 simp -implicitDefEqProofs only [syms,symx,seval,c56]
 refine zaD (fun hlt=>?_) (fun hlt=>?_)
 ·obtain ⟨r,hr,hr'⟩:=zbs (l:=d.grants) (i:=i) (by omega)
  rw [hee,zbg hr'] at hk
  have hFr:E (d.grants.take i) r=za6 [notE (!hasP d.principals r.to) 6,notE (decide (r.to=r.head.says)) 11,zcr d r.head r.body]:=by rw [hE];rfl
  have hbr:=hb6 r (List.mem_of_getElem? hr')
  simp -implicitDefEqProofs only [syms,symx,seval,c56,hv6]
  refine zAz (h6.mono z.inc) ds27 sz73 (by omega) hr (fun p v hv hp=>?_)
  obtain ⟨av,nv,cv,rfl⟩:=zec hv
  repeat' (first|simp -implicitDefEqProofs only [syms,symx,seval,c56]|with_reducible_and_instances refine ldG hp ag73 sz73 ?_)
  clear hp
  simp -implicitDefEqProofs only [syms,symx,seval,c56,zbA,zaS,List.all_cons,List.all_nil,Am.one,Bool.and_true,Bool.true_and,Bool.and_self,List.set_cons_zero,List.set_cons_succ,st4,st3,st9,st39,st42,zAX,zAu,zEa,glen,zAv,zD9,gdec,rlen,rone,zAS,List.append_nil,if_true]
  refine zdW (fun h' x hq=>?_)
  have e0:=hq 0 _ rfl
  clear hq
  (replace z:=z.overW x (by omega);(replace q0:=q0.over x);(replace hv:=hv.over x);rw [zaa h'])
  obtain ⟨E0,hE0⟩:∃ E0,E0=h1'.size+0:=⟨_,rfl⟩
  rw [← hE0] at e0
  rw [← hE0]
  with_reducible first|refine zb9 (by simp only [c56]) (z.upW _ _ (by omega)) ?_
  simp -implicitDefEqProofs only [syms,symx,seval,c56,q0.lay,e0.lay,zxC,zxD,hvs,zat,↓zbI,zbz,za0]
  refine zcz d.principals r.to _ _ _ _ _ _ _ _ ((h0.mono z.inc).lay _ _) hs _ (fun h' x=>?_)
  (((with_reducible refine zah ?_ ?_ ?_);(· exact (by (simp only [lsz]);have:=z.size;omega));(· exact x));replace z:=z.overW x (by omega);(replace q0:=q0.over x);(replace e0:=e0.over x);(replace hv:=hv.over x);rw [zaa h'])
  simp -implicitDefEqProofs only [syms,symx,seval,c56]
  (with_reducible_and_instances apply zar);(· rfl)
  simp -implicitDefEqProofs only [syms,symx,seval,c56]
  refine zbp _ _ _ _ (fun h' f1 x r1=>?_)
  (((with_reducible refine zah ?_ ?_ ?_);(· exact (by (simp only [lsz]);have:=z.size;omega));(· exact x));replace z:=z.overW x (by omega);(replace q0:=q0.over x);(replace e0:=e0.over x);(replace hv:=hv.over x);rw [zaa h'])
  simp -implicitDefEqProofs only [syms,symx,seval,c56,e0.lay,zxC,zxD,zAO,zhn,hvs]
  rw [zcc]
  simp -implicitDefEqProofs only [syms,symx,seval,c56]
  refine zbp _ _ _ _ (fun h' f2 x r2=>?_)
  (((with_reducible refine zah ?_ ?_ ?_);(· exact (by (simp only [lsz]);have:=z.size;omega));(· exact x));replace z:=z.overW x (by omega);(replace q0:=q0.over x);(replace e0:=e0.over x);(replace hv:=hv.over x);(replace r1:=r1.over x);rw [zaa h'])
  have r3:RuleF h' (.func (.func 88) ⟨[]⟩ ⟨[.pointer (some ⟨A0,0,none⟩),.pointer (some ⟨E0,0,none⟩)]⟩) (zcr d r.head r.body):=⟨⟨_,_,_,rfl⟩,fun hc K2 y hk2=>by
   rw [zbR]
   exact zs1 d r _ _ _ _ _ _ _ _ A0 E0 hc (Holds.frs0 (hsp.ext z) y) hone ((h0.mono z.inc).mono y.all) ((h1.mono z.inc).mono y.all) hs (hv.mono y.all) (by omega) (Holds.frs0 q0 y) (Holds.frs0 e0 y) K2 hk2⟩
  obtain ⟨k1,u1,v1,rfl⟩:=r1.1
  obtain ⟨k2,u2,v2,rfl⟩:=r2.1
  simp -implicitDefEqProofs only [syms,symx,seval,c56]
  refine zci (by have:=z.size;omega) (by omega) ?_
  simp -implicitDefEqProofs only [syms,symx,seval,c56]
  refine zce [.func k1 u1 v1,.func k2 u2 v2,.func (.func 88) ⟨[]⟩ ⟨[.pointer (some ⟨A0,0,none⟩),.pointer (some ⟨E0,0,none⟩)]⟩] [notE (!hasP d.principals r.to) 6,notE (decide (r.to=r.head.says)) 11,zcr d r.head r.body] _ _ (zfQ (i:=0) rfl rfl rfl (by simp)) (by simp) rfl (fun i fv e g1 g2=>?_) _ (fun h' x=>?_)
  ·match i,g1,g2 with
   |0,g1,g2=>cases g1;cases g2;exact r1.lay _ _
   |1,g1,g2=>cases g1;cases g2;exact r2.lay _ _
   |2,g1,g2=>cases g1;cases g2;exact r3.lay _ _
  (((with_reducible refine zah ?_ ?_ ?_);(· exact (by (simp only [lsz]);have:=z.size;omega));(· exact x));replace z:=z.overW x (by omega);(replace q0:=q0.over x);(replace e0:=e0.over x);(replace hv:=hv.over x);(replace r1:=r1.over x);(replace r2:=r2.over x);rw [zaa h'])
  rw [← hFr]
  clear r1 r2 r3
  simp -implicitDefEqProofs only [syms,symx,seval,c56]
  ((with_reducible refine ⟨z.grw.lay _ _,?_⟩);(intro _ h' zz x _);(simp only [zan,List.append_nil] at x);(replace q0:=q0.over x);(replace z:=zz);(clear zz);rw [zaa h'])
  simp -implicitDefEqProofs only [syms,symx,seval,c56]
  refine zdS (fun hne=>?_) (fun heq=>?_)
  ·rw [if_neg hne] at hk
   simp -implicitDefEqProofs only [syms,symx,seval,c56]
   exact hk _ (z.upW _ _ (by omega))
  rw [if_pos heq] at hk
  simp -implicitDefEqProofs only [syms,symx,seval,c56]
  rw [hw]
  (rw [hI2];with_reducible refine zae (m:=_) ?_ ⟨i+1,_,rfl,z,⟨rfl,by omega,q0,by rw [hee,zbg hr',if_pos heq]⟩,junk (by kernel_rfl)⟩;omega)
 ·rw [hee,zdu (by omega)] at hk
  simp -implicitDefEqProofs only [syms,symx,seval,c56]
  exact hk _ (z.upW _ _ (by omega))
structure PolN (d:PolicyD):Prop where
 p:d.principals.length≤1000
 c:d.clears.length≤1000
 r:d.rules.length≤1000
 rb:∀ r∈d.rules,r.body.length≤200
 g:d.grants.length≤1000
 gb:∀ g∈d.grants,g.body.length≤200
theorem zsN (d:PolicyD) (p0 p1 p2 p5 p6:Value) (q b:Int) (h:Heap) (hsp:SpaceAt 1 h) (hone:(zaq p0 p1 p2 p5 p6 q b).all Am.one=true) (hd:PolH h p0 p1 p2 p5 p6 d) (hq:d.quota=q) (hb:d.budget=b) (hn:PolN d) (K:Value→Heap→Prop) (hk:∀ h',Ext h h'→K (.int .i64 (zgg d)) h'):Ok Tryz.prog tab ov 29 [zbN p0 p1 p2 p5 p6 q b] h K:=by
 rw [zaa h]
 have z:=Ext.refl h
 obtain ⟨es,hes⟩:∃ es,es=[zhx d.principals,zkb d.preds,zkI d.principals d.clears,zdK d,zkd d]:=⟨_,rfl⟩
 obtain ⟨fvs,hfv⟩:∃ fvs:List Value,fvs=[.func (.func 52) ⟨[]⟩ ⟨[]⟩,.func (.func 53) ⟨[]⟩ ⟨[]⟩,.func (.func 54) ⟨[]⟩ ⟨[]⟩,.func (.func 55) ⟨[]⟩ ⟨[]⟩,.func (.func 56) ⟨[]⟩ ⟨[]⟩]:=⟨_,rfl⟩
 have hce:zgg d=za6 es:=by rw [hes];rfl
 rw [hce] at hk
 have hrun:∀ (i:Nat) fv e,fvs[i]? = some fv→es[i]? = some e→∀ hc (K:Value→Heap→Prop),Ext h hc→(∀ h',Ext hc h'→K (.int .i64 e) h')→zgS Tryz.prog tab ov [zbN p0 p1 p2 p5 p6 q b] hc K fv:=by
  intro i fv e h1 h2 hc K2 y hk2
  rw [hfv] at h1
  rw [hes] at h2
  have hd2:=hd.mono y.inc
  match i,h1,h2 with
  |0,h1,h2=>cases h1;cases h2;rw [za1];exact zsW d.principals _ _ _ _ _ _ _ hc (hsp.ext y) hd2.s0 K2 hk2
  |1,h1,h2=>cases h1;cases h2;rw [za1];exact zsV d.preds _ _ _ _ _ _ _ hc (hsp.ext y) hd2.s1 K2 hk2
  |2,h1,h2=>cases h1;cases h2;rw [za1];exact zqy d _ _ _ _ _ _ _ hc hone hd2.s0 hd2.s2 hn.p hn.c K2 hk2
  |3,h1,h2=>cases h1;cases h2;rw [za1];exact zoo d _ _ _ _ _ _ _ hc hq hb hd2.s5 hd2.s6 hn.r hn.g K2 hk2
  |4,h1,h2=>cases h1;cases h2;rw [za1];exact zs2 d _ _ _ _ _ _ _ hc (hsp.ext y) hone hd2.s0 hd2.s1 hn.p hd2.s5 hn.r hn.rb hd2.s6 hn.g hn.gb K2 hk2
 have hfl:fvs.length=5:=by rw [hfv];rfl
 have hel:es.length=5:=by rw [hes];rfl
 refine Ok.into rfl zwe (zaw N29) rfl (m:=20) rfl ?_
 simp -implicitDefEqProofs only [syms,symx,seval,c29,zat]
 refine zdW (fun h' x hq=>?_)
 have q0:=hq 0 _ rfl
 have q1:=hq 1 _ rfl
 clear hq
 (replace z:=z.overW x (by omega);rw [zaa h'])
 obtain ⟨A0,hA0⟩:∃ A0,A0=h.size+0:=⟨_,rfl⟩
 rw [← hA0] at q0
 rw [← hA0]
 obtain ⟨A1,hA1⟩:∃ A1,A1=h.size+1:=⟨_,rfl⟩
 rw [← hA1] at q1
 rw [← hA1]
 have sf:Sl Rep.fnv h' (.slice (some ⟨A1,0,none⟩) 5 5) fvs:=by
  refine .inr ⟨A1,0,5,_,_,_,by rw [hfl],by rw [hfl];unfold maxLen;omega,.inl ⟨by unfold G;omega,by omega⟩,q1.lt,q1.get,fun j x hx=>⟨[x],?_,rfl,?_⟩⟩
  ·rw [hfv] at hx
   match j,hx with
   |0,hx=>cases hx;rfl
   |1,hx=>cases hx;rfl
   |2,hx=>cases hx;rfl
   |3,hx=>cases hx;rfl
   |4,hx=>cases hx;rfl
  ·rw [hfv] at hx
   match j,hx with
   |0,hx=>cases hx;rfl
   |1,hx=>cases hx;rfl
   |2,hx=>cases hx;rfl
   |3,hx=>cases hx;rfl
   |4,hx=>cases hx;rfl
 clear q1
 obtain ⟨sv,hsv⟩:∃ sv,sv=Value.slice (some ⟨A1,0,none⟩) 5 5:=⟨_,rfl⟩
 rw [← hsv] at sf ⊢
 obtain ⟨I1,hI1⟩:∃ I:Nat→Env→Heap→Prop,I=(fun n e h'=>∃ (i:Nat) (h1:Heap),h'=h1.lay [] h1.low∧Ext h h1∧(n=5 - i∧i≤5∧Holds h1 A0 (.row (zaq p0 p1 p2 p5 p6 q b) 29 false)∧Sl Rep.fnv h1 sv fvs∧(∀ x∈es.take i,x=0))∧∃ J:Nat→Value,e=(J 0::.pointer (some ⟨A0,0,none⟩)::jr J 2 6 (sv::.int .i64 5::.int .i64 i::jr J 11 10 ([])))):=⟨_,rfl⟩
 refine zaE I1 _ (by rw [hI1];exact ⟨0,_,rfl,z,⟨rfl,by omega,q0,sf,by simp⟩,junk (by kernel_rfl)⟩) ?_
 intro n e h' hin
 rw [hI1] at hin
 obtain ⟨i,h1',rfl,z,hinv,J,rfl⟩:=hin
 clear q0 sf
 obtain ⟨rfl,hi,q0,sf,hall⟩:=hinv
 have hw:=zcl i (by omega)
 simp -implicitDefEqProofs only [syms,symx,seval,c29]
 refine zaD (fun hlt=>?_) (fun hlt=>?_)
 rotate_left
 ·rw [List.take_of_length_le (by omega)] at hall
  rw [firstE_zero.2 hall] at hk
  simp -implicitDefEqProofs only [syms,symx,seval,c29]
  exact hk _ (z.upW _ _ (by omega))
 obtain ⟨fv,hf,hf'⟩:=zbs (l:=fvs) (i:=i) (by omega)
 obtain ⟨e,he,he'⟩:=zbs (l:=es) (i:=i) (by omega)
 have hvf:=za3 fv
 simp -implicitDefEqProofs only [syms,symx,seval,c29]
 repeat' ((first|with_reducible_and_instances refine zsx sf ds98 sz62 (by omega) hf (fun p hp=>?_)|with_reducible_and_instances refine zfO hp ag62 ?_) <;> simp -implicitDefEqProofs only [syms,symx,seval,c29,hvf])
 simp -implicitDefEqProofs only [syms,symx,seval,c29,q0.lay,zat,↓zbI,zbz,za0]
 refine hrun i fv e hf' he' _ _ (z.upW _ _ (by omega)) (fun h' x=>?_)
 (replace z:=z.overW x (by omega);(replace q0:=q0.over x);(replace sf:=sf.over x);rw [zaa h'])
 simp -implicitDefEqProofs only [syms,symx,seval,c29]
 refine zdS (fun hne=>?_) (fun heq=>?_)
 ·rw [zmg hall he' hne] at hk
  simp -implicitDefEqProofs only [syms,symx,seval,c29]
  exact hk _ (z.upW _ _ (by omega))
 ·simp -implicitDefEqProofs only [syms,symx,seval,c29]
  rw [hw]
  (rw [hI1];with_reducible refine zae (m:=_) ?_ ⟨i+1,_,rfl,z,⟨rfl,by omega,q0,sf,zeC (i:=i) (P:=fun x:Int=>x=0) he' hall heq⟩,junk (by kernel_rfl)⟩;omega)
end Go.Proofs.YtdplfgoifjjniaaGreatDoor
