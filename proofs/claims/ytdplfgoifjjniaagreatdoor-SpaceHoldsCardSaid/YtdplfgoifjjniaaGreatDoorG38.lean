/- The code of some functions, node by node, for simp. Written by a program (mkcode.py). No condition. -/
import Derived.Test.YtdplfgoifjjniaaGreatDoorG35
set_option linter.unusedSimpArgs false
set_option linter.unusedVariables false
set_option maxRecDepth 100000
set_option maxHeartbeats 0
namespace Go.Proofs.YtdplfgoifjjniaaGreatDoor
open Go.Am
noncomputable def N52:=bq Tryz.f52
noncomputable def x52:=PLift.up (by have c:=bu N52 Tryz.f52;simp only [aE,Tryz.f52,seval] at c;exact nd c <| nd @Yb <| nd @BN <| nd @Bz <| nd @je <| nd @kL <| nd @gf <| nd @jg <| @Uq)
theorem mw:type_of% x52.down:=x52.down
noncomputable def N53:=bq Tryz.f53
noncomputable def x53:=PLift.up (by have c:=bu N53 Tryz.f53;simp only [aE,Tryz.f53,seval] at c;exact nd c <| nd @Yb <| nd @Ca <| nd @BN <| nd @GJ <| nd @EM <| nd @MQ <| nd @uS <| nd @rZ <| nd @kV <| nd @D3 <| nd @gf <| nd @uV <| @Ur)
theorem iX:type_of% x53.down:=x53.down
noncomputable def N83:=bq Tryz.f83
noncomputable def x83:=PLift.up (by have c:=bu N83 Tryz.f83;simp only [aE,Tryz.f83,seval] at c;exact nd c <| nd @BN <| nd @BB <| nd @Pu <| nd @je <| nd @kL <| nd @eO <| nd @gf <| nd @jg <| @UU)
theorem k7:type_of% x83.down:=x83.down
noncomputable def N54:=bq Tryz.f54
noncomputable def x54:=PLift.up (by have c:=bu N54 Tryz.f54;simp only [aE,Tryz.f54,seval] at c;exact nd c <| nd @Yb <| nd @S7 <| nd @BN <| nd @ztp <| nd @BB <| nd @DW <| nd @DZ <| nd @eO <| nd @D4 <| nd @gf <| nd @D7 <| @Us)
theorem oq:type_of% x54.down:=x54.down
noncomputable def N82:=bq Tryz.f82
noncomputable def x82:=PLift.up (by have c:=bu N82 Tryz.f82;simp only [aE,Tryz.f82,seval] at c;exact nd c <| nd @eO <| nd @D4 <| @UT)
theorem c82:type_of% x82.down:=x82.down
noncomputable def N55:=bq Tryz.f55
noncomputable def x55:=PLift.up (by have c:=bu N55 Tryz.f55;simp only [aE,Tryz.f55,seval] at c;exact nd c <| nd @GK <| nd @zBc <| nd @Ps <| nd @Pt <| nd @xK <| nd @xL <| nd @kV <| nd @xN <| nd @xO <| @Ut)
theorem Ni:type_of% x55.down:=x55.down
noncomputable def N85:=bq Tryz.f85
noncomputable def x85:=PLift.up (by have c:=bu N85 Tryz.f85;simp only [aE,Tryz.f85,seval] at c;exact nd c <| nd @BN <| nd @oY <| nd @ia <| @UX)
theorem Nn:type_of% x85.down:=x85.down
noncomputable def He:=bq Tryz.f113
noncomputable def KT:=PLift.up (by have c:=bu He Tryz.f113;simp only [aE,Tryz.f113,seval] at c;exact nd c <| nd @eO <| nd @b9 <| @zG5)
theorem Ih:type_of% KT.down:=KT.down
noncomputable def Hf:=bq Tryz.f114
noncomputable def KU:=PLift.up (by have c:=bu Hf Tryz.f114;simp only [aE,Tryz.f114,seval] at c;exact nd c <| nd @B9 <| nd @jf <| nd @eO <| nd @b9 <| nd @oY <| nd @ia <| @zG6)
theorem m8:type_of% KU.down:=KU.down
noncomputable def N87:=bq Tryz.f87
noncomputable def x87:=PLift.up (by have c:=bu N87 Tryz.f87;simp only [aE,Tryz.f87,seval] at c;exact nd c <| nd @S6 <| nd @B9 <| nd @EN <| nd @EO <| nd @jf <| nd @kL <| nd @b9 <| nd @oY <| nd @ia <| @UZ)
theorem pn:type_of% x87.down:=x87.down
noncomputable def Hi:=bq Tryz.f117
noncomputable def KX:=PLift.up (by have c:=bu Hi Tryz.f117;simp only [aE,Tryz.f117,seval] at c;exact nd c <| nd @kL <| @zG9)
theorem Cf:type_of% KX.down:=KX.down
noncomputable def N56:=bq Tryz.f56
noncomputable def x56:=PLift.up (by have c:=bu N56 Tryz.f56;simp only [aE,Tryz.f56,seval] at c;exact nd c <| nd @S8 <| nd @H7 <| nd @BN <| nd @Ps <| nd @Pt <| nd @ri <| nd @Pv <| nd @MR <| nd @DX <| nd @DY <| nd @xK <| nd @xL <| nd @eO <| nd @Kj <| nd @Kk <| nd @gf <| nd @xN <| nd @xO <| @Uu)
theorem ki:type_of% x56.down:=x56.down
noncomputable def N84:=bq Tryz.f84
noncomputable def x84:=PLift.up (by have c:=bu N84 Tryz.f84;simp only [aE,Tryz.f84,seval] at c;exact nd c <| nd @EN <| nd @EO <| nd @eO <| nd @b9 <| nd @oY <| @UW)
theorem c84:type_of% x84.down:=x84.down
noncomputable def N86:=bq Tryz.f86
noncomputable def x86:=PLift.up (by have c:=bu N86 Tryz.f86;simp only [aE,Tryz.f86,seval] at c;exact nd c <| nd @Kj <| @UY)
theorem c86:type_of% x86.down:=x86.down
noncomputable def N88:=bq Tryz.f88
noncomputable def x88:=PLift.up (by have c:=bu N88 Tryz.f88;simp only [aE,Tryz.f88,seval] at c;exact nd c <| nd @MR <| nd @PA <| nd @eO <| nd @b9 <| nd @oY <| @U0)
theorem c88:type_of% x88.down:=x88.down
noncomputable def N29:=bq Tryz.f29
noncomputable def x29:=PLift.up (by have c:=bu N29 Tryz.f29;simp only [aE,Tryz.f29,seval] at c;exact nd c <| nd @Th <| nd @Xd <| nd @eO <| nd @Xj <| nd @Xk <| @T4)
theorem wQ:type_of% x29.down:=x29.down
noncomputable def Hh:=bq Tryz.f116
noncomputable def KW:=PLift.up (by have c:=bu Hh Tryz.f116;simp only [aE,Tryz.f116,seval] at c;exact nd c <| @zG8)
theorem Ce:type_of% KW.down:=KW.down
noncomputable def Hy:=bq Tryz.f138
noncomputable def Lh:=PLift.up (by have c:=bu Hy Tryz.f138;simp only [aE,Tryz.f138,seval] at c;exact nd c <| nd @je <| nd @gf <| nd @jg <| @zHs)
theorem pS:type_of% Lh.down:=Lh.down
theorem GG:ae.desc 125=some (.map 9 126):=by kernel_rfl
theorem rC:ae.desc 9=some .string:=by kernel_rfl
theorem zv7:ae.zero 126=some (.agg ⟨[]⟩):=by kernel_rfl
theorem zok:nR ae 126 []=some (.agg ⟨[]⟩):=by kernel_rfl
theorem Y3 {T:bD} {t kt et:TypeId} {A w:Nat} {met:List ByteArray} {a:ByteArray} {h1:Heap} {bs:List bh} {K:Value→Heap→Prop} (m:eZ Value.string h1 A met) (hd:T.desc t=some (.map kt et)) (hs:T.desc kt=some .string) (hz:T.zero et=some (.agg ⟨[]⟩)) (hK:K (.tuple #[.agg ⟨[]⟩,.bool (bg met a)]) (h1.lay bs w)):aU (vt T t (.map (some A)) (.string a) true (h1.lay bs w)) (h1.lay bs w) K :=
 zrr (kv:=Value.string) m (fun _=>rfl) hd (GI hs) hz (fun hm=>by rw [cI.2 hm] at hK;exact hK) (fun hm=>by rw [Bool.eq_false_iff.2 (mt cI.1 hm)] at hK;exact hK)
theorem ZF {T:bD} {t kt et:TypeId} {A w:Nat} {met:List ByteArray} {a:ByteArray} {h1:Heap} {bs:List bh} {K:Value→Heap→Prop} (m:eZ Value.string h1 A met) (hd:T.desc t=some (.map kt et)) (hs:T.desc kt=some .string) (hK:∀ h',eZ Value.string h' A (met++[a])→fK A (h1.lay bs w) h'→K undef h'):gv (mS T t (.map (some A)) (.string a) (.agg ⟨[]⟩) (h1.lay bs w)) K :=
 zAV (kv:=Value.string) m (fun _=>rfl) (fun x=>YW x) hd (GI hs) (fun h' m2 c=>hK h' (m2.same (fun b=>by rw [List.mem_cons,List.mem_append,List.mem_singleton];exact Or.comm)) c)
theorem Gz (h:Heap) (l:List bh) (w i o:Nat) (v:Value) (hi:i < l.length):gA ae 126 (.pointer (some ⟨h.size+i,o,none⟩)) v (h.lay l w)=if v.cells.size=0 then qw l[i]? i o v.cells.toList h l w else none:=tc (by kernel_rfl) h l w i o v hi
theorem zw4 (s:ByteArray) (h:Heap) (cA:aY 1 h) (K:Value→Heap→Prop) (hk:∀ h',Ext h h'→K (.bool (mv s)) h'):Ok Tryz.prog ae ov 79 [.string s] h K :=
 Zz s h cA K (fun g h' x=>by rw [bM.2 g] at hk;exact hk h' x) (fun g h' x=>by rw [O2 g] at hk;exact hk h' x)
theorem zw3 (s:ByteArray) (h:Heap) (cA:aY 1 h) (K:Value→Heap→Prop) (hk:∀ h',Ext h h'→K (.bool (mv s)) h'):Ok Tryz.prog ae ov 80 [.string s] h K :=
 zqm s h cA K (fun g h' x=>by rw [bM.2 g] at hk;exact hk h' x) (fun g h' x=>by rw [O2 g] at hk;exact hk h' x)
theorem zi8 {l:List ByteArray} (h:l.length < 1∨16 < l.length):pj l=4:=if_pos h
theorem zuc (l:List ByteArray) (p0 p1 p2 p5 p6:Value) (q b:Int) (h:Heap) (cA:aY 1 h) (hl:Sl aK.str h p0 l) (K:Value→Heap→Prop) (hk:∀ h',Ext h h'→K (.int .i64 (pj l)) h'):Ok Tryz.prog ae ov 52 [gQ p0 p1 p2 p5 p6 q b] h K:=by
 rw [ao h]
 have z:=Ext.refl h
 have hle:=hl.le
 have bC:=cJ p0
 have dF:=lD
 have cp:=fun (hh:Heap)=>hl.bd cM hh
 refine Ok.aD rfl zz5 (br N52) rfl (m:=47) rfl ?_
 simp -implicitDefEqProofs only [syms,aa,seval,mw,eQ,dy,bC,cp]
 refine bp (fun h1=>?_) (fun h1=>?_)
 ·rw [zi8 (.inl (by omega))] at hk
  simp -implicitDefEqProofs only [syms,aa,seval,mw]
  exact hk _ (z.aw _ _ (by omega))
 simp -implicitDefEqProofs only [syms,aa,seval,mw]
 refine bp (fun h2=>?_) (fun h2=>?_)
 ·rw [zi8 (.inr (by omega))] at hk
  simp -implicitDefEqProofs only [syms,aa,seval,mw]
  exact hk _ (z.aw _ _ (by omega))
 have xw:pj l=ey (fun pre w=>gh [aX (!mv w) 3,aX (bg pre w) 5]) [] l:=if_neg (by omega)
 rw [xw] at hk
 obtain ⟨F,hF⟩:∃ F:List ByteArray→ByteArray→Int,F=fun pre w=>gh [aX (!mv w) 3,aX (bg pre w) 5]:=⟨_,rfl⟩
 rw [← hF] at hk
 simp -implicitDefEqProofs only [syms,aa,seval,mw,Gl,eQ,dy,bC,cp]
 refine lG (fun h' x hq=>?_)
 have q0:=hq 0 _ rfl
 have q1:=hq 1 _ rfl
 clear hq
 (replace z:=z.an x (by omega);rw [ao h'])
 obtain ⟨M,hM⟩:∃ M,M=h.size+1:=⟨_,rfl⟩
 rw [← hM] at q1
 rw [← hM]
 clear q0
 obtain ⟨I1,aR⟩:∃ I:Nat→Env→Heap→Prop,I=(fun n e h'=>∃ (i:Nat) (h1:Heap),h'=h1.lay [] h1.low∧Ext h h1∧(n=l.length - i∧i≤l.length∧eZ Value.string h1 M (l.take i)∧ey F [] l=ey F (l.take i) (l.drop i))∧∃ J:Nat→Value,e=(jr J 0 4 (.map (some M)::jr J 5 16 (p0::.int .i64 l.length::.int .i64 i::jr J 24 24 ([]))))):=⟨_,rfl⟩
 refine dg I1 _ (by rw [aR];exact ⟨0,_,rfl,z,⟨rfl,by omega,eZ.new q1,rfl⟩,aB (by kernel_rfl)⟩) ?_
 intro n e h' aH
 rw [aR] at aH
 obtain ⟨i,bE,rfl,z,hinv,J,rfl⟩:=aH
 clear q1
 obtain ⟨rfl,hi,q1,dn⟩:=hinv
 have hw:=eg i (by omega)
 simp -implicitDefEqProofs only [syms,aa,seval,mw]
 refine bp (fun aS=>?_) (fun aS=>?_)
 rotate_left
 ·rw [dn,Bk (by omega)] at hk
  simp -implicitDefEqProofs only [syms,aa,seval,mw]
  exact hk _ (z.aw _ _ (by omega))
 obtain ⟨r,hr,bo⟩:=eP (l:=l) (i:=i) (by omega)
 rw [dn,pB bo] at hk
 have nV:F (l.take i) r=gh [aX (!mv r) 3,aX (bg (l.take i) r) 5]:=by rw [hF]
 simp -implicitDefEqProofs only [syms,aa,seval,mw,bC]
 repeat' ((first|with_reducible_and_instances refine ph (hl.mono z.inc) cM mN (by omega) hr (fun p hp=>?_)|with_reducible_and_instances refine fX hp gU ?_) <;> simp -implicitDefEqProofs only [syms,aa,seval,mw,bC,dF])
 simp -implicitDefEqProofs only [syms,aa,seval,mw,v8,dF]
 refine Y3 q1 GG rC zv7 ?_
 simp -implicitDefEqProofs only [syms,aa,seval,mw,mr,nO,List.all_cons,List.all_nil,Am.one,Bool.and_true,Bool.true_and,Bool.and_self,List.set_cons_zero,List.set_cons_succ,kM,fe,nJ,gy,gz,Gz]
 rw [wg]
 simp -implicitDefEqProofs only [syms,aa,seval,mw,mr,nO,List.all_cons,List.all_nil,Am.one,Bool.and_true,Bool.true_and,Bool.and_self,List.set_cons_zero,List.set_cons_succ,kM,fe,nJ,gy,gz,Gz]
 refine zw4 r _ ((cA.ext z).lay _ _) _ (fun h' x=>?_)
 (replace z:=z.an x (by omega);(replace q1:=q1.over x);rw [ao h'])
 clear hp
 simp -implicitDefEqProofs only [syms,aa,seval,mw]
 (with_reducible_and_instances apply cm);(· rfl)
 simp -implicitDefEqProofs only [syms,aa,seval,mw]
 refine lS _ _ _ _ (fun h' f1 x r1=>?_)
 (replace z:=z.an x (by omega);(replace q1:=q1.over x);rw [ao h'])
 simp -implicitDefEqProofs only [syms,aa,seval,mw]
 refine lS _ _ _ _ (fun h' f2 x r2=>?_)
 (replace z:=z.an x (by omega);(replace q1:=q1.over x);(replace r1:=r1.over x);rw [ao h'])
 obtain ⟨g1,u1,v1,rfl⟩:=r1.1
 obtain ⟨g2,u2,v2,rfl⟩:=r2.1
 simp -implicitDefEqProofs only [syms,aa,seval,mw]
 refine wh [.func g1 u1 v1,.func g2 u2 v2] [aX (!mv r) 3,aX (bg (l.take i) r) 5] _ _ (wx (i:=0) rfl rfl rfl (by simp)) (by simp) rfl (fun i fv e h1 h2=>?_) _ (fun h' x=>?_)
 ·match i,h1,h2 with
  |0,h1,h2=>cases h1;cases h2;exact r1.lay _ _
  |1,h1,h2=>cases h1;cases h2;exact r2.lay _ _
 (replace z:=z.an x (by omega);(replace q1:=q1.over x);(replace r1:=r1.over x);(replace r2:=r2.over x);rw [ao h'])
 rw [← nV]
 clear r1 r2
 simp -implicitDefEqProofs only [syms,aa,seval,mw]
 refine iK (fun aO=>?_) (fun heq=>?_)
 ·rw [if_neg aO] at hk
  simp -implicitDefEqProofs only [syms,aa,seval,mw]
  exact hk _ (z.aw _ _ (by omega))
 rw [if_pos heq] at hk
 have CJ:h.size≤M:=by omega
 simp -implicitDefEqProofs only [syms,aa,seval,mw,zok,LW]
 refine ZF q1 GG rC (fun h3 q3 ou=>?_)
 replace z:=z.dI ou CJ (by omega)
 rw [ao h3]
 simp -implicitDefEqProofs only [syms,aa,seval,mw]
 rw [hw]
 have lz:l.take (i+1)=l.take i++[r]:=by rw [List.take_add_one,bo];rfl
 rw [← lz] at q3
 (rw [aR];with_reducible refine cz (m:=_) ?_ ⟨i+1,_,rfl,z,⟨rfl,by omega,q3,by rw [dn,pB bo,if_pos heq]⟩,aB (by kernel_rfl)⟩;omega)
theorem zr2 {l:List bx} (h:32 < l.length):rk l=4:=if_pos h
theorem ta (x y:Value):([x,y]:List Value)[0]? = some x:=rfl
theorem wu (x y:Value):([x,y]:List Value)[1]? = some y:=rfl
theorem zub (l:List bx) (p0 p1 p2 p5 p6:Value) (q b:Int) (h:Heap) (cA:aY 1 h) (hl:Sl aK.pred h p1 l) (K:Value→Heap→Prop) (hk:∀ h',Ext h h'→K (.int .i64 (rk l)) h'):Ok Tryz.prog ae ov 53 [gQ p0 p1 p2 p5 p6 q b] h K:=by
 rw [ao h]
 have z:=Ext.refl h
 have hle:=hl.le
 have bC:=cJ p1
 have dF:=lD
 have cp:=fun (hh:Heap)=>hl.bd iY hh
 refine Ok.aD rfl zz6 (br N53) rfl (m:=53) rfl ?_
 simp -implicitDefEqProofs only [syms,aa,seval,iX,eQ,eo,bC,cp]
 refine bp (fun h2=>?_) (fun h2=>?_)
 ·rw [zr2 (by omega)] at hk
  simp -implicitDefEqProofs only [syms,aa,seval,iX]
  exact hk _ (z.aw _ _ (by omega))
 have xw:rk l=ey (fun pre x=>gh [aX (!mv x.name) 3,aX (bg (pre.map bx.name) x.name) 5,aX (decide (x.arity < 0∨4 < x.arity)) 4]) [] l:=if_neg (by omega)
 rw [xw] at hk
 obtain ⟨F,hF⟩:∃ F:List bx→bx→Int,F=fun pre x=>gh [aX (!mv x.name) 3,aX (bg (pre.map bx.name) x.name) 5,aX (decide (x.arity < 0∨4 < x.arity)) 4]:=⟨_,rfl⟩
 rw [← hF] at hk
 simp -implicitDefEqProofs only [syms,aa,seval,iX,Gl,eQ,eo,bC,cp]
 refine lG (fun h' x hq=>?_)
 have q0:=hq 0 _ rfl
 have q1:=hq 1 _ rfl
 clear hq
 (replace z:=z.an x (by omega);rw [ao h'])
 obtain ⟨M,hM⟩:∃ M,M=h.size+1:=⟨_,rfl⟩
 rw [← hM] at q1
 rw [← hM]
 clear q0
 obtain ⟨I1,aR⟩:∃ I:Nat→Env→Heap→Prop,I=(fun n e h'=>∃ (i:Nat) (h1:Heap),h'=h1.lay [] h1.low∧Ext h h1∧(n=l.length - i∧i≤l.length∧eZ Value.string h1 M ((l.take i).map bx.name)∧ey F [] l=ey F (l.take i) (l.drop i))∧∃ J:Nat→Value,e=(jr J 0 3 (.map (some M)::jr J 4 11 (p1::.int .i64 l.length::.int .i64 i::jr J 18 36 ([]))))):=⟨_,rfl⟩
 refine dg I1 _ (by rw [aR];exact ⟨0,_,rfl,z,⟨rfl,by omega,eZ.new q1,rfl⟩,aB (by kernel_rfl)⟩) ?_
 intro n e h' aH
 rw [aR] at aH
 obtain ⟨i,bE,rfl,z,hinv,J,rfl⟩:=aH
 clear q1
 obtain ⟨rfl,hi,q1,dn⟩:=hinv
 have hw:=eg i (by omega)
 simp -implicitDefEqProofs only [syms,aa,seval,iX]
 refine bp (fun aS=>?_) (fun aS=>?_)
 rotate_left
 ·rw [dn,Bk (by omega)] at hk
  simp -implicitDefEqProofs only [syms,aa,seval,iX]
  exact hk _ (z.aw _ _ (by omega))
 obtain ⟨r,hr,bo⟩:=eP (l:=l) (i:=i) (by omega)
 rw [dn,pB bo] at hk
 have nV:F (l.take i) r=gh [aX (!mv r.name) 3,aX (bg ((l.take i).map bx.name) r.name) 5,aX (decide (r.arity < 0∨4 < r.arity)) 4]:=by rw [hF]
 simp -implicitDefEqProofs only [syms,aa,seval,iX,bC]
 repeat' ((first|with_reducible_and_instances refine MU (hl.mono z.inc) iY kb (by omega) hr (fun p hp=>?_)|with_reducible_and_instances refine Km hp tm kb ?_) <;> simp -implicitDefEqProofs only [syms,aa,seval,iX,bC,dF])
 simp -implicitDefEqProofs only [syms,aa,seval,iX,mr,nO,List.all_cons,List.all_nil,Am.one,Bool.and_true,Bool.true_and,Bool.and_self,List.set_cons_zero,List.set_cons_succ,kM,fe,nJ,gy,gz,zEu,v8,dF]
 refine Y3 q1 GG rC zv7 ?_
 simp -implicitDefEqProofs only [syms,aa,seval,iX,mr,nO,List.all_cons,List.all_nil,Am.one,Bool.and_true,Bool.true_and,Bool.and_self,List.set_cons_zero,List.set_cons_succ,kM,fe,nJ,gy,gz,Gz]
 rw [wg]
 simp -implicitDefEqProofs only [syms,aa,seval,iX,mr,nO,List.all_cons,List.all_nil,Am.one,Bool.and_true,Bool.true_and,Bool.and_self,List.set_cons_zero,List.set_cons_succ,kM,fe,nJ,gy,gz,Gz]
 refine lG (fun h' x hq=>?_)
 have e0:=hq 0 _ rfl
 clear hq
 (replace z:=z.an x (by omega);(replace q1:=q1.over x);rw [ao h'])
 obtain ⟨E0,nU⟩:∃ E0,E0=bE.size+0:=⟨_,rfl⟩
 rw [← nU] at e0
 rw [← nU]
 clear hp
 with_reducible first|refine eu (by simp only [iX]) (z.aw _ _ (by omega)) ?_
 simp -implicitDefEqProofs only [syms,aa,seval,iX,e0.lay,ta,wu,dF]
 refine zw3 r.name _ ((cA.ext z).lay _ _) _ (fun h' x=>?_)
 (((with_reducible refine dK ?_ ?_ ?_);(· exact (by (simp only [dM]);have:=z.size;omega));(· exact x));replace z:=z.an x (by omega);(replace q1:=q1.over x);(replace e0:=e0.over x);rw [ao h'])
 simp -implicitDefEqProofs only [syms,aa,seval,iX]
 (with_reducible_and_instances apply cm);(· rfl)
 simp -implicitDefEqProofs only [syms,aa,seval,iX]
 refine lS _ _ _ _ (fun h' f1 x r1=>?_)
 (((with_reducible refine dK ?_ ?_ ?_);(· exact (by (simp only [dM]);have:=z.size;omega));(· exact x));replace z:=z.an x (by omega);(replace q1:=q1.over x);(replace e0:=e0.over x);rw [ao h'])
 simp -implicitDefEqProofs only [syms,aa,seval,iX]
 refine lS _ _ _ _ (fun h' f2 x r2=>?_)
 (((with_reducible refine dK ?_ ?_ ?_);(· exact (by (simp only [dM]);have:=z.size;omega));(· exact x));replace z:=z.an x (by omega);(replace q1:=q1.over x);(replace e0:=e0.over x);(replace r1:=r1.over x);rw [ao h'])
 simp -implicitDefEqProofs only [syms,aa,seval,iX,e0.lay,ta,wu,dF]
 refine bp (fun c1=>?_) (fun c1=>?_)
 ·have kS:decide (r.arity < 0∨4 < r.arity)=true:=by simp [c1]
  rw [kS] at nV
  simp -implicitDefEqProofs only [syms,aa,seval,iX,e0.lay,ta,wu,dF]
  refine lS _ _ _ _ (fun h' f3 x r3=>?_)
  (((with_reducible refine dK ?_ ?_ ?_);(· exact (by (simp only [dM]);have:=z.size;omega));(· exact x));replace z:=z.an x (by omega);(replace q1:=q1.over x);(replace e0:=e0.over x);(replace r1:=r1.over x);(replace r2:=r2.over x);rw [ao h'])
  obtain ⟨g1,u1,v1,rfl⟩:=r1.1
  obtain ⟨g2,u2,v2,rfl⟩:=r2.1
  obtain ⟨g3,u3,v3,rfl⟩:=r3.1
  simp -implicitDefEqProofs only [syms,aa,seval,iX]
  refine Ep (by have:=z.size;omega) (by omega) ?_
  simp -implicitDefEqProofs only [syms,aa,seval,iX]
  refine wh [.func g1 u1 v1,.func g2 u2 v2,.func g3 u3 v3] [aX (!mv r.name) 3,aX (bg ((l.take i).map bx.name) r.name) 5,aX true 4] _ _ (wx (i:=0) rfl rfl rfl (by simp)) (by simp) rfl (fun i fv e h1 h2=>?_) _ (fun h' x=>?_)
  ·match i,h1,h2 with
   |0,h1,h2=>cases h1;cases h2;exact r1.lay _ _
   |1,h1,h2=>cases h1;cases h2;exact r2.lay _ _
   |2,h1,h2=>cases h1;cases h2;exact r3.lay _ _
  (((with_reducible refine dK ?_ ?_ ?_);(· exact (by (simp only [dM]);have:=z.size;omega));(· exact x));replace z:=z.an x (by omega);(replace q1:=q1.over x);(replace r1:=r1.over x);(replace r2:=r2.over x);(replace r3:=r3.over x);rw [ao h'])
  rw [← nV]
  clear r1 r2 r3
  simp -implicitDefEqProofs only [syms,aa,seval,iX]
  ((with_reducible refine ⟨z.cW.lay _ _,?_⟩);(intro _ h' zz x _);(simp only [cq,List.append_nil] at x);(replace q1:=q1.over x);(replace z:=zz);(clear zz);rw [ao h'])
  simp -implicitDefEqProofs only [syms,aa,seval,iX]
  refine iK (fun aO=>?_) (fun heq=>?_)
  ·rw [if_neg aO] at hk
   simp -implicitDefEqProofs only [syms,aa,seval,iX]
   exact hk _ (z.aw _ _ (by omega))
  ·rw [heq] at nV
   have:=cH.1 nV.symm 4 (by simp [aX])
   omega
 ·have kS:decide (r.arity < 0∨4 < r.arity)=decide (4 < r.arity):=by simp [c1]
  rw [kS] at nV
  simp -implicitDefEqProofs only [syms,aa,seval,iX,e0.lay,ta,wu,dF]
  repeat (rw [wg];simp -implicitDefEqProofs only [syms,aa,seval,iX,e0.lay,ta,wu,dF])
  refine lS _ _ _ _ (fun h' f3 x r3=>?_)
  (((with_reducible refine dK ?_ ?_ ?_);(· exact (by (simp only [dM]);have:=z.size;omega));(· exact x));replace z:=z.an x (by omega);(replace q1:=q1.over x);(replace e0:=e0.over x);(replace r1:=r1.over x);(replace r2:=r2.over x);rw [ao h'])
  obtain ⟨g1,u1,v1,rfl⟩:=r1.1
  obtain ⟨g2,u2,v2,rfl⟩:=r2.1
  obtain ⟨g3,u3,v3,rfl⟩:=r3.1
  simp -implicitDefEqProofs only [syms,aa,seval,iX]
  refine Ep (by have:=z.size;omega) (by omega) ?_
  simp -implicitDefEqProofs only [syms,aa,seval,iX]
  refine wh [.func g1 u1 v1,.func g2 u2 v2,.func g3 u3 v3] [aX (!mv r.name) 3,aX (bg ((l.take i).map bx.name) r.name) 5,aX (decide (4 < r.arity)) 4] _ _ (wx (i:=0) rfl rfl rfl (by simp)) (by simp) rfl (fun i fv e h1 h2=>?_) _ (fun h' x=>?_)
  ·match i,h1,h2 with
   |0,h1,h2=>cases h1;cases h2;exact r1.lay _ _
   |1,h1,h2=>cases h1;cases h2;exact r2.lay _ _
   |2,h1,h2=>cases h1;cases h2;exact r3.lay _ _
  (((with_reducible refine dK ?_ ?_ ?_);(· exact (by (simp only [dM]);have:=z.size;omega));(· exact x));replace z:=z.an x (by omega);(replace q1:=q1.over x);(replace e0:=e0.over x);(replace r1:=r1.over x);(replace r2:=r2.over x);(replace r3:=r3.over x);rw [ao h'])
  rw [← nV]
  clear r1 r2 r3
  simp -implicitDefEqProofs only [syms,aa,seval,iX]
  ((with_reducible refine ⟨z.cW.lay _ _,?_⟩);(intro _ h' zz x _);(simp only [cq,List.append_nil] at x);(replace q1:=q1.over x);(replace e0:=e0.over x);(replace z:=zz);(clear zz);rw [ao h'])
  simp -implicitDefEqProofs only [syms,aa,seval,iX]
  refine iK (fun aO=>?_) (fun heq=>?_)
  ·rw [if_neg aO] at hk
   simp -implicitDefEqProofs only [syms,aa,seval,iX]
   exact hk _ (z.aw _ _ (by omega))
  rw [if_pos heq] at hk
  have CJ:h.size≤M:=by omega
  simp -implicitDefEqProofs only [syms,aa,seval,iX,e0.lay,ta,dF,zok,LW]
  refine ZF q1 GG rC (fun h3 q3 ou=>?_)
  replace z:=z.dI ou CJ (by omega)
  rw [ao h3]
  simp -implicitDefEqProofs only [syms,aa,seval,iX]
  rw [hw]
  have lz:(l.take (i+1)).map bx.name=(l.take i).map bx.name++[r.name]:=by rw [List.take_add_one,bo];simp
  rw [← lz] at q3
  (rw [aR];with_reducible refine cz (m:=_) ?_ ⟨i+1,_,rfl,z,⟨rfl,by omega,q3,by rw [dn,pB bo,if_pos heq]⟩,aB (by kernel_rfl)⟩;omega)
theorem Gk {α:Type} {r:aK α} {h:Heap} {v:Value} {l:List α} (f:Sl r h v l):∃ a n c,v=.slice a n c:=by
 rcases f with ⟨rfl,_⟩|⟨A,o,c,row,u,ro,rfl,_⟩ <;> exact ⟨_,_,_,rfl⟩
theorem zzr {h:Heap} {v:Value} {l:List ByteArray} (f:Sl aK.str h v l) (i:Nat) (hi:i≤l.length):∃ a n c,kf ae 23 v none (some (.int .i64 i)) none=some (.slice a n c)∧Sl aK.str h (.slice a n c) (l.take i):=by
 obtain ⟨u1,g1,g2⟩:=f.sub (a:=0) (b:=i) (by decide) cM mN (.inl ⟨rfl,rfl⟩) (.inr ⟨.i64,rfl⟩) (by omega) hi
 obtain ⟨a,n,c,rfl⟩:=Gk g2
 exact ⟨a,n,c,g1,by simpa using g2⟩
theorem znE {ps:List ByteArray} {c:bF} (h:c.reads.length < 1∨16 < c.reads.length):ob ps c=4:=if_pos h
theorem zud (ps:List ByteArray) (c:bF) (v:Value) (p0 p1 p2 p5 p6:Value) (q b:Int) (h:Heap) (bw:(dw p0 p1 p2 p5 p6 q b).all Am.one=true) (h0:Sl aK.str h p0 ps) (hs:ps.length≤1000) (hv:Sl aK.str h v c.reads) (K:Value→Heap→Prop) (hk:∀ h',Ext h h'→K (.int .i64 (ob ps c)) h'):Ok Tryz.prog ae ov 83 [gQ p0 p1 p2 p5 p6 q b,.agg ⟨[.string c.bt,v]⟩] h K:=by
 rw [ao h]
 have z:=Ext.refl h
 have hle:=hv.le
 have bC:=cJ v
 have dF:=lD
 have cp:=fun (hh:Heap)=>hv.bd cM hh
 refine Ok.aD rfl zAA (br N83) rfl (m:=47) rfl ?_
 simp -implicitDefEqProofs only [syms,aa,seval,k7,eQ,bC,cp]
 refine bp (fun h1=>?_) (fun h1=>?_)
 ·rw [znE (.inl (by omega))] at hk
  simp -implicitDefEqProofs only [syms,aa,seval,k7]
  exact hk _ (z.aw _ _ (by omega))
 simp -implicitDefEqProofs only [syms,aa,seval,k7]
 refine bp (fun h2=>?_) (fun h2=>?_)
 ·rw [znE (.inr (by omega))] at hk
  simp -implicitDefEqProofs only [syms,aa,seval,k7]
  exact hk _ (z.aw _ _ (by omega))
 have xw:ob ps c=ey (fun pre w=>gh [aX (!bg ps w) 6,aX (decide (w=c.bt)) 11,aX (bg pre w) 5]) [] c.reads:=if_neg (by omega)
 rw [xw] at hk
 obtain ⟨F,hF⟩:∃ F:List ByteArray→ByteArray→Int,F=fun pre w=>gh [aX (!bg ps w) 6,aX (decide (w=c.bt)) 11,aX (bg pre w) 5]:=⟨_,rfl⟩
 rw [← hF] at hk
 simp -implicitDefEqProofs only [syms,aa,seval,k7,bC,cp]
 refine lG (fun h' x hq=>?_)
 have q0:=hq 0 _ rfl
 have q1:=hq 1 _ rfl
 clear hq
 (replace z:=z.an x (by omega);rw [ao h'])
 obtain ⟨A0,dS⟩:∃ A0,A0=h.size+0:=⟨_,rfl⟩
 rw [← dS] at q0
 rw [← dS]
 obtain ⟨A1,mb⟩:∃ A1,A1=h.size+1:=⟨_,rfl⟩
 rw [← mb] at q1
 rw [← mb]
 obtain ⟨I1,aR⟩:∃ I:Nat→Env→Heap→Prop,I=(fun n e h'=>∃ (i:Nat) (h1:Heap),h'=h1.lay [] h1.low∧Ext h h1∧(n=c.reads.length - i∧i≤c.reads.length∧Holds h1 A0 (.row (dw p0 p1 p2 p5 p6 q b) 29 false)∧Holds h1 A1 (.row [.string c.bt,v] 69 false)∧ey F [] c.reads=ey F (c.reads.take i) (c.reads.drop i))∧∃ J:Nat→Value,e=(jr J 0 2 (.pointer (some ⟨A0,0,none⟩)::.pointer (some ⟨A1,0,none⟩)::jr J 4 15 (v::.int .i64 c.reads.length::.int .i64 i::jr J 22 27 ([]))))):=⟨_,rfl⟩
 refine dg I1 _ (by rw [aR];exact ⟨0,_,rfl,z,⟨rfl,by omega,q0,q1,rfl⟩,aB (by kernel_rfl)⟩) ?_
 intro n e h' aH
 rw [aR] at aH
 obtain ⟨i,bE,rfl,z,hinv,J,rfl⟩:=aH
 clear q0 q1
 obtain ⟨rfl,hi,q0,q1,dn⟩:=hinv
 have hw:=eg i (by omega)
 simp -implicitDefEqProofs only [syms,aa,seval,k7]
 refine bp (fun aS=>?_) (fun aS=>?_)
 rotate_left
 ·rw [dn,Bk (by omega)] at hk
  simp -implicitDefEqProofs only [syms,aa,seval,k7]
  exact hk _ (z.aw _ _ (by omega))
 obtain ⟨r,hr,bo⟩:=eP (l:=c.reads) (i:=i) (by omega)
 rw [dn,pB bo] at hk
 have nV:F (c.reads.take i) r=gh [aX (!bg ps r) 6,aX (decide (r=c.bt)) 11,aX (bg (c.reads.take i) r) 5]:=by rw [hF]
 obtain ⟨a,m,cc,g1,g2⟩:=zzr hv i hi
 have jm:∀ (h:Heap) (K:Value→Heap→Prop),aU (some (.slice a m cc)) h K=K (.slice a m cc) h:=fun _ _=>rfl
 simp -implicitDefEqProofs only [syms,aa,seval,k7,bC]
 repeat' ((first|with_reducible_and_instances refine ph (hv.mono z.inc) cM mN (by omega) hr (fun p hp=>?_)|with_reducible_and_instances refine fX hp gU ?_) <;> simp -implicitDefEqProofs only [syms,aa,seval,k7,bC,dF])
 clear hp
 with_reducible first|refine eu (by simp only [k7]) (z.aw _ _ (by omega)) ?_
 simp -implicitDefEqProofs only [syms,aa,seval,k7,q0.lay,q1.lay,ta,wu,dF,eQ,↓im,gP,gk]
 refine LP ps r _ _ _ _ _ _ _ _ ((h0.mono z.inc).lay _ _) hs _ (fun h' x=>?_)
 (((with_reducible refine dK ?_ ?_ ?_);(· exact (by (simp only [dM]);have:=z.size;omega));(· exact x));replace z:=z.an x (by omega);(replace q0:=q0.over x);(replace q1:=q1.over x);rw [ao h'])
 simp -implicitDefEqProofs only [syms,aa,seval,k7]
 (with_reducible_and_instances apply cm);(· rfl)
 simp -implicitDefEqProofs only [syms,aa,seval,k7]
 refine lS _ _ _ _ (fun h' f1 x r1=>?_)
 (((with_reducible refine dK ?_ ?_ ?_);(· exact (by (simp only [dM]);have:=z.size;omega));(· exact x));replace z:=z.an x (by omega);(replace q0:=q0.over x);(replace q1:=q1.over x);rw [ao h'])
 simp -implicitDefEqProofs only [syms,aa,seval,k7,q0.lay,q1.lay,ta,wu,dF]
 rw [wg]
 simp -implicitDefEqProofs only [syms,aa,seval,k7,q0.lay,q1.lay,ta,wu,dF]
 refine lS _ _ _ _ (fun h' f2 x r2=>?_)
 (((with_reducible refine dK ?_ ?_ ?_);(· exact (by (simp only [dM]);have:=z.size;omega));(· exact x));replace z:=z.an x (by omega);(replace q0:=q0.over x);(replace q1:=q1.over x);(replace r1:=r1.over x);rw [ao h'])
 simp -implicitDefEqProofs only [syms,aa,seval,k7,q0.lay,q1.lay,ta,wu,bC,g1,jm,dF]
 refine FZ (c.reads.take i) _ r _ ((g2.mono z.inc).lay _ _) (by rw [List.length_take];omega) _ (fun h' x=>?_)
 (((with_reducible refine dK ?_ ?_ ?_);(· exact (by (simp only [dM]);have:=z.size;omega));(· exact x));replace z:=z.an x (by omega);(replace q0:=q0.over x);(replace q1:=q1.over x);(replace r1:=r1.over x);(replace r2:=r2.over x);rw [ao h'])
 simp -implicitDefEqProofs only [syms,aa,seval,k7]
 refine lS _ _ _ _ (fun h' f3 x r3=>?_)
 (((with_reducible refine dK ?_ ?_ ?_);(· exact (by (simp only [dM]);have:=z.size;omega));(· exact x));replace z:=z.an x (by omega);(replace q0:=q0.over x);(replace q1:=q1.over x);(replace r1:=r1.over x);(replace r2:=r2.over x);rw [ao h'])
 obtain ⟨k1,u1,v1,rfl⟩:=r1.1
 obtain ⟨k2,u2,v2,rfl⟩:=r2.1
 obtain ⟨k3,u3,v3,rfl⟩:=r3.1
 simp -implicitDefEqProofs only [syms,aa,seval,k7]
 refine Ep (by have:=z.size;omega) (by omega) ?_
 simp -implicitDefEqProofs only [syms,aa,seval,k7]
 refine wh [.func k1 u1 v1,.func k2 u2 v2,.func k3 u3 v3] [aX (!bg ps r) 6,aX (decide (r=c.bt)) 11,aX (bg (c.reads.take i) r) 5] _ _ (wx (i:=0) rfl rfl rfl (by simp)) (by simp) rfl (fun i fv e h1 h2=>?_) _ (fun h' x=>?_)
 ·match i,h1,h2 with
  |0,h1,h2=>cases h1;cases h2;exact r1.lay _ _
  |1,h1,h2=>cases h1;cases h2;exact r2.lay _ _
  |2,h1,h2=>cases h1;cases h2;exact r3.lay _ _
 (((with_reducible refine dK ?_ ?_ ?_);(· exact (by (simp only [dM]);have:=z.size;omega));(· exact x));replace z:=z.an x (by omega);(replace q0:=q0.over x);(replace q1:=q1.over x);(replace r1:=r1.over x);(replace r2:=r2.over x);(replace r3:=r3.over x);rw [ao h'])
 rw [← nV]
 clear r1 r2 r3
 simp -implicitDefEqProofs only [syms,aa,seval,k7]
 ((with_reducible refine ⟨z.cW.lay _ _,?_⟩);(intro _ h' zz x _);(simp only [cq,List.append_nil] at x);(replace q0:=q0.over x);(replace q1:=q1.over x);(replace z:=zz);(clear zz);rw [ao h'])
 simp -implicitDefEqProofs only [syms,aa,seval,k7]
 refine iK (fun aO=>?_) (fun heq=>?_)
 ·rw [if_neg aO] at hk
  simp -implicitDefEqProofs only [syms,aa,seval,k7]
  exact hk _ (z.aw _ _ (by omega))
 rw [if_pos heq] at hk
 simp -implicitDefEqProofs only [syms,aa,seval,k7]
 rw [hw]
 (rw [aR];with_reducible refine cz (m:=_) ?_ ⟨i+1,_,rfl,z,⟨rfl,by omega,q0,q1,by rw [dn,pB bo,if_pos heq]⟩,aB (by kernel_rfl)⟩;omega)
theorem zrE (ps:List ByteArray) (c:bF) (v:Value) (p0 p1 p2 p5 p6:Value) (q b:Int) (A B:Nat) (h:Heap) (bw:(dw p0 p1 p2 p5 p6 q b).all Am.one=true) (h0:Sl aK.str h p0 ps) (hs:ps.length≤1000) (hv:Sl aK.str h v c.reads) (q0:Holds h A (.row (dw p0 p1 p2 p5 p6 q b) 29 false)) (q1:Holds h B (.row [.string c.bt,v] 69 false)) (K:Value→Heap→Prop) (hk:∀ h',Ext h h'→K (.int .i64 (ob ps c)) h'):Ok Tryz.prog ae ov 82 [.pointer (some ⟨A,0,none⟩),.pointer (some ⟨B,0,none⟩)] h K:=by
 rw [ao h]
 have z:=Ext.refl h
 refine Ok.aD rfl zAz (br N82) rfl (m:=4) rfl ?_
 simp -implicitDefEqProofs only [syms,aa,seval,c82,q0.lay,q1.lay,eQ,↓im,gP,gk]
 refine zud ps c v _ _ _ _ _ _ _ _ bw (h0.lay _ _) hs (hv.lay _ _) _ (fun h' x=>?_)
 (replace z:=z.an x (by omega);rw [ao h'])
 simp -implicitDefEqProofs only [syms,aa,seval,c82]
 exact hk _ (z.aw _ _ (by omega))
theorem zIb (h:Heap) (l:List bh) (w i o:Nat) (v:Value) (hi:i < l.length):gA ae 69 (.pointer (some ⟨h.size+i,o,none⟩)) v (h.lay l w)=if v.cells.size=2 then qw l[i]? i o v.cells.toList h l w else none:=tc lC h l w i o v hi
theorem zrF (d:au) (p0 p1 p2 p5 p6:Value) (q b:Int) (h:Heap) (bw:(dw p0 p1 p2 p5 p6 q b).all Am.one=true) (h0:Sl aK.str h p0 d.aj) (h2:Sl aK.clear h p2 d.aV) (hs:d.aj.length≤1000) (j7:d.aV.length≤1000) (K:Value→Heap→Prop) (hk:∀ h',Ext h h'→K (.int .i64 (vp d.aj d.aV)) h'):Ok Tryz.prog ae ov 54 [gQ p0 p1 p2 p5 p6 q b] h K:=by
 rw [ao h]
 have z:=Ext.refl h
 have bC:=cJ p2
 have dF:=lD
 have cp:=fun (hh:Heap)=>h2.bd ky hh
 obtain ⟨F,hF⟩:∃ F:List bF→bF→Int,F=fun pre c=>gh [aX (!bg d.aj c.bt) 6,aX (bg (pre.map bF.bt) c.bt) 5,ob d.aj c]:=⟨_,rfl⟩
 have xw:vp d.aj d.aV=ey F [] d.aV:=by rw [hF];rfl
 rw [xw] at hk
 refine Ok.aD rfl zz7 (br N54) rfl (m:=42) rfl ?_
 simp -implicitDefEqProofs only [syms,aa,seval,oq,Gl,eQ,fV,bC,cp]
 refine lG (fun h' x hq=>?_)
 have q0:=hq 0 _ rfl
 have q1:=hq 1 _ rfl
 clear hq
 (replace z:=z.an x (by omega);rw [ao h'])
 obtain ⟨A0,dS⟩:∃ A0,A0=h.size+0:=⟨_,rfl⟩
 rw [← dS] at q0
 rw [← dS]
 obtain ⟨M,hM⟩:∃ M,M=h.size+1:=⟨_,rfl⟩
 rw [← hM] at q1
 rw [← hM]
 have hAM:A0≠M:=by omega
 obtain ⟨I1,aR⟩:∃ I:Nat→Env→Heap→Prop,I=(fun n e h'=>∃ (i:Nat) (h1:Heap),h'=h1.lay [] h1.low∧Ext h h1∧(n=d.aV.length - i∧i≤d.aV.length∧Holds h1 A0 (.row (dw p0 p1 p2 p5 p6 q b) 29 false)∧eZ Value.string h1 M ((d.aV.take i).map bF.bt)∧ey F [] d.aV=ey F (d.aV.take i) (d.aV.drop i))∧∃ J:Nat→Value,e=(J 0::.pointer (some ⟨A0,0,none⟩)::J 2::.map (some M)::jr J 4 7 (p2::.int .i64 d.aV.length::.int .i64 i::jr J 14 29 ([])))):=⟨_,rfl⟩
 refine dg I1 _ (by rw [aR];exact ⟨0,_,rfl,z,⟨rfl,by omega,q0,eZ.new q1,rfl⟩,aB (by kernel_rfl)⟩) ?_
 intro n e h' aH
 rw [aR] at aH
 obtain ⟨i,bE,rfl,z,hinv,J,rfl⟩:=aH
 clear q0 q1
 obtain ⟨rfl,hi,q0,q1,dn⟩:=hinv
 have hw:=eg i (by omega)
 simp -implicitDefEqProofs only [syms,aa,seval,oq]
 refine bp (fun aS=>?_) (fun aS=>?_)
 rotate_left
 ·rw [dn,Bk (by omega)] at hk
  simp -implicitDefEqProofs only [syms,aa,seval,oq]
  exact hk _ (z.aw _ _ (by omega))
 obtain ⟨r,hr,bo⟩:=eP (l:=d.aV) (i:=i) (by omega)
 rw [dn,pB bo] at hk
 have nV:F (d.aV.take i) r=gh [aX (!bg d.aj r.bt) 6,aX (bg ((d.aV.take i).map bF.bt) r.bt) 5,ob d.aj r]:=by rw [hF]
 simp -implicitDefEqProofs only [syms,aa,seval,oq,bC]
 refine GO (h2.mono z.inc) ky lC (by omega) hr (fun p v hv hp=>?_)
 have AO:Am.one v=true:=hv.one
 have gN:=cJ v
 obtain ⟨av,nv,cv,rfl⟩:=Gk hv
 repeat' (first|simp -implicitDefEqProofs only [syms,aa,seval,oq,dF]|with_reducible_and_instances refine Km hp wG lC ?_)
 simp -implicitDefEqProofs only [syms,aa,seval,oq,mr,nO,List.all_cons,List.all_nil,Am.one,Bool.and_true,Bool.true_and,Bool.and_self,List.set_cons_zero,List.set_cons_succ,kM,fe,nJ,gy,gz,zIb,v8,dF]
 refine Y3 q1 GG rC zv7 ?_
 simp -implicitDefEqProofs only [syms,aa,seval,oq,mr,nO,List.all_cons,List.all_nil,Am.one,Bool.and_true,Bool.true_and,Bool.and_self,List.set_cons_zero,List.set_cons_succ,kM,fe,nJ,gy,gz,Gz]
 rw [wg]
 simp -implicitDefEqProofs only [syms,aa,seval,oq,mr,nO,List.all_cons,List.all_nil,Am.one,Bool.and_true,Bool.true_and,Bool.and_self,List.set_cons_zero,List.set_cons_succ,kM,fe,nJ,gy,gz,Gz]
 clear hp
 simp -implicitDefEqProofs only [syms,aa,seval,oq,q0.lay,ta,wu,dF,eQ,↓im,gP,gk]
 refine LP d.aj r.bt _ _ _ _ _ _ _ _ ((h0.mono z.inc).lay _ _) hs _ (fun h' x=>?_)
 have e0:=Holds.top (i:=0) x rfl
 (replace z:=z.an x (by omega);(replace q0:=q0.over x);(replace q1:=q1.over x);(replace hv:=hv.over x);rw [ao h'])
 obtain ⟨E0,nU⟩:∃ E0,E0=bE.size+0:=⟨_,rfl⟩
 rw [← nU] at e0
 rw [← nU]
 simp -implicitDefEqProofs only [syms,aa,seval,oq]
 (with_reducible_and_instances apply cm);(· rfl)
 simp -implicitDefEqProofs only [syms,aa,seval,oq]
 refine lS _ _ _ _ (fun h' f1 x r1=>?_)
 (replace z:=z.an x (by omega);(replace q0:=q0.over x);(replace q1:=q1.over x);(replace e0:=e0.over x);(replace hv:=hv.over x);rw [ao h'])
 simp -implicitDefEqProofs only [syms,aa,seval,oq]
 refine lS _ _ _ _ (fun h' f2 x r2=>?_)
 (replace z:=z.an x (by omega);(replace q0:=q0.over x);(replace q1:=q1.over x);(replace e0:=e0.over x);(replace hv:=hv.over x);(replace r1:=r1.over x);rw [ao h'])
 have r3:eK h' (.func (.func 82) ⟨[]⟩ ⟨[.pointer (some ⟨A0,0,none⟩),.pointer (some ⟨E0,0,none⟩)]⟩) (ob d.aj r):=⟨⟨_,_,_,rfl⟩,fun hc K2 y fp=>by
  rw [vW]
  exact zrE d.aj r _ _ _ _ _ _ _ _ A0 E0 hc bw ((h0.mono z.inc).mono y.all) hs (hv.mono y.all) (Holds.fD q0 y) (Holds.fD e0 y) K2 fp⟩
 obtain ⟨k1,u1,v1,rfl⟩:=r1.1
 obtain ⟨k2,u2,v2,rfl⟩:=r2.1
 simp -implicitDefEqProofs only [syms,aa,seval,oq]
 refine wh [.func k1 u1 v1,.func k2 u2 v2,.func (.func 82) ⟨[]⟩ ⟨[.pointer (some ⟨A0,0,none⟩),.pointer (some ⟨E0,0,none⟩)]⟩] [aX (!bg d.aj r.bt) 6,aX (bg ((d.aV.take i).map bF.bt) r.bt) 5,ob d.aj r] _ _ (wx (i:=0) rfl rfl rfl (by simp)) (by simp) rfl (fun i fv e h1 h2=>?_) _ (fun h' x=>?_)
 ·match i,h1,h2 with
  |0,h1,h2=>cases h1;cases h2;exact r1.lay _ _
  |1,h1,h2=>cases h1;cases h2;exact r2.lay _ _
  |2,h1,h2=>cases h1;cases h2;exact r3.lay _ _
 (replace z:=z.an x (by omega);(replace q0:=q0.over x);(replace q1:=q1.over x);(replace e0:=e0.over x);(replace hv:=hv.over x);(replace r1:=r1.over x);(replace r2:=r2.over x);rw [ao h'])
 rw [← nV]
 clear r1 r2 r3
 simp -implicitDefEqProofs only [syms,aa,seval,oq]
 refine iK (fun aO=>?_) (fun heq=>?_)
 ·rw [if_neg aO] at hk
  simp -implicitDefEqProofs only [syms,aa,seval,oq]
  exact hk _ (z.aw _ _ (by omega))
 rw [if_pos heq] at hk
 have CJ:h.size≤M:=by omega
 simp -implicitDefEqProofs only [syms,aa,seval,oq,e0.lay,ta,dF,zok,LW]
 refine ZF q1 GG rC (fun h3 q3 ou=>?_)
 replace z:=z.dI ou CJ (by omega)
 replace q0:=q0.bR ou hAM
 rw [ao h3]
 simp -implicitDefEqProofs only [syms,aa,seval,oq]
 rw [hw]
 have lz:(d.aV.take (i+1)).map bF.bt=(d.aV.take i).map bF.bt++[r.bt]:=by rw [List.take_add_one,bo];simp
 rw [← lz] at q3
 (rw [aR];with_reducible refine cz (m:=_) ?_ ⟨i+1,_,rfl,z,⟨rfl,by omega,q0,q3,by rw [dn,pB bo,if_pos heq]⟩,aB (by kernel_rfl)⟩;omega)
theorem znN (a:ab):a.val.cells.size=11:=rfl
theorem zm6 (a:ab):a.cells.length=11:=rfl
theorem znw (a:ab):a.cells.all Am.one=true:=rfl
theorem ztd (z0 z1 z2 z3 z4 z5 z6 z7 z8 z9 zH:Value):List.drop 11 [z0,z1,z2,z3,z4,z5,z6,z7,z8,z9,zH]=[]:=rfl
theorem zA7:decide (11≤11)=true:=rfl
theorem zpa {d:au} (h:d.du < 0∨1000 < d.du∨d.cD < 1∨1048576 < d.cD∨64 < d.rules.length+d.bc.length):vk d=aX true 4:=by
 unfold vk
 congr 1
 simp only [Bool.or_eq_true,decide_eq_true_eq]
 omega
theorem zne {d:au} (h:¬ (d.du < 0∨1000 < d.du∨d.cD < 1∨1048576 < d.cD∨64 < d.rules.length+d.bc.length)):vk d=aX false 4:=by
 unfold vk
 congr 1
 simp only [Bool.or_eq_false_iff,decide_eq_false_iff_not]
 omega
theorem zpg (d:au) (p0 p1 p2 p5 p6:Value) (q b:Int) (h:Heap) (hq:d.du=q) (hb:d.cD=b) (h5:Sl aK.clause h p5 d.rules) (h6:Sl aK.oA h p6 d.bc) (AX:d.rules.length≤1000) (hs6:d.bc.length≤1000) (K:Value→Heap→Prop) (hk:∀ h',Ext h h'→K (.int .i64 (vk d)) h'):Ok Tryz.prog ae ov 55 [gQ p0 p1 p2 p5 p6 q b] h K:=by
 rw [ao h]
 have z:=Ext.refl h
 have jP:=cJ p5
 have kJ:=cJ p6
 have lu:=fun (hh:Heap)=>h5.bd kA hh
 have kG:=fun (hh:Heap)=>h6.bd k9 hh
 have hw:IntKind.i64.wrap ((d.rules.length:Int)+(d.bc.length:Int))=((d.rules.length+d.bc.length:Nat):Int):=by rw [wrap_i64 (by omega) (by omega)];omega
 refine Ok.aD rfl zz8 (br N55) rfl (m:=38) rfl ?_
 simp -implicitDefEqProofs only [syms,aa,seval,Ni,eQ,xT,Ea,fH,fW,jP,kJ,lu,kG,hw]
 repeat' ((with_reducible refine bp (fun _=>?_) (fun _=>?_)) <;> simp -implicitDefEqProofs only [syms,aa,seval,Ni,eQ,xT,Ea,fH,fW,jP,kJ,lu,kG,hw])
 all_goals
  refine lS _ _ _ _ (fun h' f1 x r1=>?_)
  (replace z:=z.an x (by omega);rw [ao h'])
  obtain ⟨k1,u1,v1,rfl⟩:=r1.1
  simp -implicitDefEqProofs only [syms,aa,seval,Ni]
  refine r1.2 _ _ (aT.lay _ _ _ _) (fun h' x=>?_)
  (replace z:=z.an x (by omega);rw [ao h'])
  first
   |rw [zpa (by omega)] at hk
   |rw [zne (by omega)] at hk
  simp -implicitDefEqProofs only [syms,aa,seval,Ni]
  exact hk _ (z.aw _ _ (by omega))
theorem zrB (d:au) (a:ab) (p0 p1 p2 p5 p6:Value) (q b:Int) (A B:Nat) (h:Heap) (cA:aY 1 h) (bw:(dw p0 p1 p2 p5 p6 q b).all Am.one=true) (h0:Sl aK.str h p0 d.aj) (h1:Sl aK.pred h p1 d.bA) (hs:d.aj.length≤1000) (q0:Holds h A (.row (dw p0 p1 p2 p5 p6 q b) 29 false)) (q1:Holds h B (.row a.cells 42 false)) (K:Value→Heap→Prop) (hk:∀ h',Ext h h'→K (.int .i64 (iu d a)) h'):Ok Tryz.prog ae ov 113 [.pointer (some ⟨A,0,none⟩),.pointer (some ⟨B,0,none⟩)] h K:=by
 rw [ao h]
 have z:=Ext.refl h
 refine Ok.aD rfl zu4 (br He) rfl (m:=4) rfl ?_
 simp -implicitDefEqProofs only [syms,aa,seval,Ih,q0.lay,q1.lay,eQ,↓im,gP,gk,eW,↓ff,eR,dQ]
 refine Zy d a _ _ _ _ _ _ _ _ (cA.lay _ _) bw (h0.lay _ _) (h1.lay _ _) hs _ (fun h' x=>?_)
 (replace z:=z.an x (by omega);rw [ao h'])
 simp -implicitDefEqProofs only [syms,aa,seval,Ih]
 exact hk _ (z.aw _ _ (by omega))
theorem zrC (d:au) (l:List ab) (v:Value) (p0 p1 p2 p5 p6:Value) (q b:Int) (A B:Nat) (h:Heap) (cA:aY 1 h) (bw:(dw p0 p1 p2 p5 p6 q b).all Am.one=true) (h0:Sl aK.str h p0 d.aj) (h1:Sl aK.pred h p1 d.bA) (hs:d.aj.length≤1000) (hl:Sl aK.atom h v l) (j7:l.length≤1000) (q0:Holds h A (.row (dw p0 p1 p2 p5 p6 q b) 29 false)) (q1:Holds h B (.row [v] 52 false)) (K:Value→Heap→Prop) (hk:∀ h',Ext h h'→K (.int .i64 (zX d l)) h'):Ok Tryz.prog ae ov 114 [.pointer (some ⟨B,0,none⟩),.pointer (some ⟨A,0,none⟩)] h K:=by
 rw [ao h]
 have z:=Ext.refl h
 have bC:=cJ v
 have cp:=fun (hh:Heap)=>hl.bd cf hh
 obtain ⟨F,hF⟩:∃ F:List ab→ab→Int,F=fun _ a=>iu d a:=⟨_,rfl⟩
 have xw:zX d l=ey F [] l:=by rw [hF];rfl
 rw [xw] at hk
 refine Ok.aD rfl zu5 (br Hf) rfl (m:=17) rfl ?_
 simp -implicitDefEqProofs only [syms,aa,seval,m8,q1.lay,bC,cp]
 obtain ⟨I1,aR⟩:∃ I:Nat→Env→Heap→Prop,I=(fun n e h'=>∃ (i:Nat) (h1:Heap),h'=h1.lay [] h1.low∧Ext h h1∧(n=l.length - i∧i≤l.length∧Holds h1 A (.row (dw p0 p1 p2 p5 p6 q b) 29 false)∧ey F [] l=ey F (l.take i) (l.drop i))∧∃ J:Nat→Value,e=(J 0::.pointer (some ⟨A,0,none⟩)::jr J 2 4 (v::.int .i64 l.length::.int .i64 i::jr J 9 10 ([])))):=⟨_,rfl⟩
 refine dg I1 _ (by rw [aR];exact ⟨0,_,rfl,z,⟨rfl,by omega,q0,rfl⟩,aB (by kernel_rfl)⟩) ?_
 intro n e h' aH
 rw [aR] at aH
 obtain ⟨i,bE,rfl,z,hinv,J,rfl⟩:=aH
 clear q0
 obtain ⟨rfl,hi,q0,dn⟩:=hinv
 have hw:=eg i (by omega)
 simp -implicitDefEqProofs only [syms,aa,seval,m8]
 refine bp (fun aS=>?_) (fun aS=>?_)
 rotate_left
 ·rw [dn,Bk (by omega)] at hk
  simp -implicitDefEqProofs only [syms,aa,seval,m8]
  exact hk _ (z.aw _ _ (by omega))
 obtain ⟨r,hr,bo⟩:=eP (l:=l) (i:=i) (by omega)
 rw [dn,pB bo] at hk
 have nV:F (l.take i) r=iu d r:=by rw [hF]
 simp -implicitDefEqProofs only [syms,aa,seval,m8,bC]
 repeat' ((first|with_reducible_and_instances refine pg (hl.mono z.inc) cf bS (by omega) hr (fun p hp=>?_)|with_reducible_and_instances refine mM hp fw bS ?_) <;> simp -implicitDefEqProofs only [syms,aa,seval,m8,bC])
 clear hp
 simp -implicitDefEqProofs only [syms,aa,seval,m8,mr,nO,List.all_cons,List.all_nil,Am.one,Bool.and_true,Bool.true_and,Bool.and_self,List.set_cons_zero,List.set_cons_succ,kM,fe,nJ,gy,gz,znN,zm6,znw,ztd,zA7,List.append_nil,if_true,q0.lay,eQ,↓im,gP,gk,eW,↓ff,eR,dQ]
 refine Zy d r _ _ _ _ _ _ _ _ ((cA.ext z).lay _ _) bw ((h0.mono z.inc).lay _ _) ((h1.mono z.inc).lay _ _) hs _ (fun h' x=>?_)
 (replace z:=z.an x (by omega);(replace q0:=q0.over x);rw [ao h'])
 rw [← nV]
 simp -implicitDefEqProofs only [syms,aa,seval,m8]
 refine iK (fun aO=>?_) (fun heq=>?_)
 ·rw [if_neg aO] at hk
  simp -implicitDefEqProofs only [syms,aa,seval,m8]
  exact hk _ (z.aw _ _ (by omega))
 rw [if_pos heq] at hk
 simp -implicitDefEqProofs only [syms,aa,seval,m8]
 rw [hw]
 (rw [aR];with_reducible refine cz (m:=_) ?_ ⟨i+1,_,rfl,z,⟨rfl,by omega,q0,by rw [dn,pB bo,if_pos heq]⟩,aB (by kernel_rfl)⟩;omega)
theorem zkD (d:au) (a:ab) (l:List ab) (v:Value) (p0 p1 p2 p5 p6:Value) (q b:Int) (h:Heap) (cA:aY 1 h) (bw:(dw p0 p1 p2 p5 p6 q b).all Am.one=true) (h0:Sl aK.str h p0 d.aj) (h1:Sl aK.pred h p1 d.bA) (hs:d.aj.length≤1000) (hl:Sl aK.atom h v l) (j7:l.length≤1000) (K:Value→Heap→Prop) (hk:∀ h',Ext h h'→K (.int .i64 (jR d a l)) h'):Ok Tryz.prog ae ov 85 [gQ p0 p1 p2 p5 p6 q b,a.val,v] h K:=by
 rw [ao h]
 have z:=Ext.refl h
 have bC:=cJ v
 have cp:=fun (hh:Heap)=>hl.bd cf hh
 obtain ⟨av,nv,cv,rfl⟩:=Gk hl
 refine Ok.aD rfl zAC (br N85) rfl (m:=12) rfl ?_
 simp -implicitDefEqProofs only [syms,aa,seval,Nn,eQ,eW,bC,cp]
 rw [wg]
 simp -implicitDefEqProofs only [syms,aa,seval,Nn,bC,cp]
 refine lS _ _ _ _ (fun h' f1 x r1=>?_)
 have q0:=Holds.top (i:=0) x rfl
 have q1:=Holds.top (i:=1) x rfl
 have q2:=Holds.top (i:=2) x rfl
 (replace z:=z.an x (by omega);rw [ao h'])
 obtain ⟨A0,dS⟩:∃ A0,A0=h.size+0:=⟨_,rfl⟩
 rw [← dS] at q0
 rw [← dS]
 obtain ⟨A1,mb⟩:∃ A1,A1=h.size+1:=⟨_,rfl⟩
 rw [← mb] at q1
 rw [← mb]
 obtain ⟨A2,Vf⟩:∃ A2,A2=h.size+2:=⟨_,rfl⟩
 rw [← Vf] at q2
 rw [← Vf]
 have r0:eK h' (.func (.func 113) ⟨[]⟩ ⟨[.pointer (some ⟨A0,0,none⟩),.pointer (some ⟨A1,0,none⟩)]⟩) (iu d a):=⟨⟨_,_,_,rfl⟩,fun hc K2 y fp=>by
  rw [vW]
  exact zrB d a _ _ _ _ _ _ _ A0 A1 hc (Holds.fD (cA.ext z) y) bw ((h0.mono z.inc).mono y.all) ((h1.mono z.inc).mono y.all) hs (Holds.fD q0 y) (Holds.fD q1 y) K2 fp⟩
 have r2:eK h' (.func (.func 114) ⟨[]⟩ ⟨[.pointer (some ⟨A2,0,none⟩),.pointer (some ⟨A0,0,none⟩)]⟩) (zX d l):=⟨⟨_,_,_,rfl⟩,fun hc K2 y fp=>by
  rw [vW]
  exact zrC d l _ _ _ _ _ _ _ _ A0 A2 hc (Holds.fD (cA.ext z) y) bw ((h0.mono z.inc).mono y.all) ((h1.mono z.inc).mono y.all) hs ((hl.mono z.inc).mono y.all) j7 (Holds.fD q0 y) (Holds.fD q2 y) K2 fp⟩
 obtain ⟨k1,u1,v1,rfl⟩:=r1.1
 simp -implicitDefEqProofs only [syms,aa,seval,Nn]
 refine wh [.func (.func 113) ⟨[]⟩ ⟨[.pointer (some ⟨A0,0,none⟩),.pointer (some ⟨A1,0,none⟩)]⟩,.func k1 u1 v1,.func (.func 114) ⟨[]⟩ ⟨[.pointer (some ⟨A2,0,none⟩),.pointer (some ⟨A0,0,none⟩)]⟩] [iu d a,aX (decide (6 < l.length)) 4,zX d l] _ _ (wx (i:=0) rfl rfl rfl (by simp)) (by simp) rfl (fun i fv e h1 h2=>?_) _ (fun h' x=>?_)
 ·match i,h1,h2 with
  |0,h1,h2=>cases h1;cases h2;exact r0.lay _ _
  |1,h1,h2 =>
   cases h1;cases h2
   have e:decide (6 < l.length)=decide ((l.length:Int) > 6):=by rw [Bool.eq_iff_iff,decide_eq_true_iff,decide_eq_true_iff];omega
   rw [e]
   exact r1.lay _ _
  |2,h1,h2=>cases h1;cases h2;exact r2.lay _ _
 (replace z:=z.an x (by omega);(replace q0:=q0.over x);(replace q1:=q1.over x);(replace q2:=q2.over x);(replace r1:=r1.over x);rw [ao h'])
 simp -implicitDefEqProofs only [syms,aa,seval,Nn]
 exact hk _ (z.aw _ _ (by omega))
theorem zpm (a:ab) (v:Value):(a.cells++[v])[11]? = some v:=rfl
theorem zEm (a:ab) (v:Value):cut (a.cells++[v]) 0 11=some a.cells:=rfl
theorem zIc:rm ae 23 23=true:=by kernel_rfl
theorem zno (l:List ByteArray) (v fv:Value) (pr:ByteArray→Bool) (h:Heap) (hl:Sl aK.str h v l) (hs:l.length≤1000) (Dt:∀ (x:ByteArray) (hc:Heap) (K:Value→Heap→Prop),Ext h hc→(∀ h',Ext hc h'→K (.bool (pr x)) h')→so Tryz.prog ae ov [.string x] hc K fv) (K:Value→Heap→Prop)
 (hk:∀ h',Ext h h'→K (.int .i64 (kK pr l)) h'):Ok Tryz.prog ae ov 138 [v,fv] h K:=by
 rw [ao h]
 have z:=Ext.refl h
 have bC:=cJ v
 have dF:=lD
 have cp:=fun (hh:Heap)=>hl.bd cM hh
 refine Ok.aD rfl zvo (br Hy) rfl (m:=17) rfl ?_
 simp -implicitDefEqProofs only [syms,aa,seval,pS,bC,cp]
 obtain ⟨I1,aR⟩:∃ I:Nat→Env→Heap→Prop,I=(fun n e h'=>∃ (i:Nat) (h1:Heap),h'=h1.lay [] h1.low∧Ext h h1∧(n=l.length - i∧i≤l.length∧∀ x∈l.take i,pr x=false)∧∃ J:Nat→Value,e=(v::fv::jr J 2 5 (.int .i64 l.length::.int .i64 i::jr J 9 10 ([])))):=⟨_,rfl⟩
 refine dg I1 _ (by rw [aR];exact ⟨0,_,rfl,z,⟨rfl,by omega,by simp⟩,aB (by kernel_rfl)⟩) ?_
 intro n e h' aH
 rw [aR] at aH
 obtain ⟨i,bE,rfl,z,hinv,J,rfl⟩:=aH
 obtain ⟨rfl,hi,az⟩:=hinv
 have hw:=eg i (by omega)
 simp -implicitDefEqProofs only [syms,aa,seval,pS]
 refine bp (fun aS=>?_) (fun aS=>?_)
 rotate_left
 ·rw [List.take_of_length_le (by omega)] at az
  have:=Pa az
  rw [this] at hk
  simp -implicitDefEqProofs only [syms,aa,seval,pS]
  exact hk _ (z.aw _ _ (by omega))
 obtain ⟨r,hr,bo⟩:=eP (l:=l) (i:=i) (by omega)
 simp -implicitDefEqProofs only [syms,aa,seval,pS,bC]
 repeat' ((first|with_reducible_and_instances refine ph (hl.mono z.inc) cM mN (by omega) hr (fun p hp=>?_)|with_reducible_and_instances refine fX hp gU ?_) <;> simp -implicitDefEqProofs only [syms,aa,seval,pS,bC,dF])
 refine Dt _ _ _ (z.aw _ _ (by omega)) (fun h' x=>?_)
 (replace z:=z.an x (by omega);rw [ao h'])
 clear hp
 cases hx:pr r
 rotate_left
 ·simp -implicitDefEqProofs only [syms,aa,seval,pS]
  have:=OX bo az hx
  rw [this] at hk
  exact hk _ (z.aw _ _ (by omega))
 ·simp -implicitDefEqProofs only [syms,aa,seval,pS]
  rw [hw]
  (rw [aR];with_reducible refine cz (m:=_) ?_ ⟨i+1,_,rfl,z,⟨rfl,by omega,pf (i:=i) (P:=fun x:ByteArray=>pr x=false) bo az hx⟩,aB (by kernel_rfl)⟩;omega)
theorem ziW (l:List ByteArray) (v fv:Value) (pr:ByteArray→Bool) (h:Heap) (hl:Sl aK.str h v l) (hs:l.length≤1000) (Dt:∀ (x:ByteArray) (hc:Heap) (K:Value→Heap→Prop),Ext h hc→(∀ h',Ext hc h'→K (.bool (pr x)) h')→so Tryz.prog ae ov [.string x] hc K fv) (K:Value→Heap→Prop)
 (hk:∀ h',Ext h h'→K (.bool (l.any pr)) h'):Ok Tryz.prog ae ov 116 [v,fv] h K:=by
 refine Ok.aD rfl zu7 (br Hh) rfl (m:=7) rfl ?_
 simp -implicitDefEqProofs only [syms,aa,seval,Ce]
 refine zno l v fv pr h hl hs Dt _ (fun h' x=>?_)
 simp -implicitDefEqProofs only [syms,aa,seval,Ce,Po]
 refine PK (fun hh=>?_) (fun hh=>?_)
 all_goals
  simp -implicitDefEqProofs only [syms,aa,seval,Ce]
  rw [hh] at hk
  exact hk _ x
theorem zrT (l:List ByteArray) (s:ByteArray) (w:Value) (C:Nat) (h:Heap) (q:Holds h C (.row [w] 23 false)) (hl:Sl aK.str h w l) (hs:l.length≤1000) (K:Value→Heap→Prop) (hk:∀ h',Ext h h'→K (.bool (!bg l s)) h'):Ok Tryz.prog ae ov 117 [.string s,.pointer (some ⟨C,0,none⟩)] h K:=by
 rw [ao h]
 have z:=Ext.refl h
 have jm:=cJ w
 have dF:=lD
 refine Ok.aD rfl zu8 (br Hi) rfl (m:=6) rfl ?_
 simp -implicitDefEqProofs only [syms,aa,seval,Cf,q.lay,jm,dF]
 refine FZ l w s _ (hl.lay _ _) hs _ (fun h' x=>?_)
 (replace z:=z.an x (by omega);rw [ao h'])
 simp -implicitDefEqProofs only [syms,aa,seval,Cf]
 (with_reducible_and_instances apply cm);(· rfl)
 simp -implicitDefEqProofs only [syms,aa,seval,Cf]
 exact hk _ (z.aw _ _ (by omega))
open Classical in
theorem zr5 {c:bP} {l m:List ByteArray} (hl:∀ x,x∈l↔iM c.head x) (hm:∀ x,x∈m↔∃ a∈c.body,iM a x):zQ c=aX (l.any fun v => !bg m v) 9:=by
 unfold zQ
 congr 1
 rw [Bool.eq_iff_iff,decide_eq_true_iff,List.any_eq_true]
 constructor
 ·rintro ⟨x,h1,h2⟩
  refine ⟨x,(hl x).2 h1,?_⟩
  have:bg m x=false:=Bool.eq_false_iff.2 (fun hh=>by
   obtain ⟨a,ha,hv⟩:=(hm x).1 (cI.1 hh)
   exact h2 a ha hv)
  rw [this];rfl
 ·rintro ⟨x,h1,h2⟩
  refine ⟨x,(hl x).1 h1,fun a ha hv=>?_⟩
  have:bg m x=true:=cI.2 ((hm x).2 ⟨a,ha,hv⟩)
  rw [this] at h2
  simp at h2
theorem zrU (c:bP) (v:Value) (h:Heap) (hl:Sl aK.atom h v c.body) (hs:c.body.length≤200) (K:Value→Heap→Prop) (hk:∀ h',Ext h h'→K (.int .i64 (zQ c)) h'):Ok Tryz.prog ae ov 87 [.agg ⟨c.head.cells++[v]⟩] h K:=by
 rw [ao h]
 have z:=Ext.refl h
 have bC:=cJ v
 have cp:=fun (hh:Heap)=>hl.bd cf hh
 refine Ok.aD rfl zAE (br N87) rfl (m:=26) rfl ?_
 simp -implicitDefEqProofs only [syms,aa,seval,pn,zpm,bC,cp]
 refine lG (fun h' x hq=>?_)
 have q0:=hq 0 _ rfl
 have q1:=hq 1 _ rfl
 clear hq
 (replace z:=z.an x (by omega);rw [ao h'])
 obtain ⟨A0,dS⟩:∃ A0,A0=h.size+0:=⟨_,rfl⟩
 rw [← dS] at q0
 rw [← dS]
 obtain ⟨C,hC⟩:∃ C,C=h.size+1:=⟨_,rfl⟩
 rw [← hC] at q1
 rw [← hC]
 obtain ⟨I1,aR⟩:∃ I:Nat→Env→Heap→Prop,I=(fun n e h'=>∃ (i:Nat) (wv:Value) (A:Nat) (lg:List ByteArray) (h1:Heap),h'=h1.lay [] h1.low∧Ext h h1∧(n=c.body.length - i∧i≤c.body.length∧Holds h1 A0 (.row (c.head.cells++[v]) 71 false)∧Holds h1 C (.row [wv] 23 false)∧Ow aK.str h h1 9 A wv lg∧C < A∧lg.length≤4*i∧(∀ x,x∈lg↔∃ a∈c.body.take i,iM a x))∧∃ J:Nat→Value,e=(J 0::.pointer (some ⟨A0,0,none⟩)::J 2::.pointer (some ⟨C,0,none⟩)::jr J 4 4 (v::.int .i64 c.body.length::.int .i64 i::jr J 11 16 ([])))):=⟨_,rfl⟩
 refine dg I1 _ (by rw [aR];exact ⟨0,.slice none 0 0,C+1,[],_,rfl,z,⟨rfl,by omega,q0,q1,Ow.nil (by omega),by omega,by simp,by simp⟩,aB (by kernel_rfl)⟩) ?_
 intro n e h' aH
 rw [aR] at aH
 obtain ⟨i,wv,A,lg,bE,rfl,z,hinv,J,rfl⟩:=aH
 clear q0 q1
 obtain ⟨rfl,hi,q0,q1,ow,hCA,hhl,b8⟩:=hinv
 have hw:=eg i (by omega)
 have jm:=cJ wv
 simp -implicitDefEqProofs only [syms,aa,seval,pn]
 refine bp (fun aS=>?_) (fun aS=>?_)
 ·obtain ⟨r,hr,bo⟩:=eP (l:=c.body) (i:=i) (by omega)
  simp -implicitDefEqProofs only [syms,aa,seval,pn,bC]
  repeat' ((first|with_reducible_and_instances refine pg (hl.mono z.inc) cf bS (by omega) hr (fun p hp=>?_)|with_reducible_and_instances refine mM hp fw bS ?_) <;> simp -implicitDefEqProofs only [syms,aa,seval,pn,bC])
  clear hp
  simp -implicitDefEqProofs only [syms,aa,seval,pn,mr,nO,List.all_cons,List.all_nil,Am.one,Bool.and_true,Bool.true_and,Bool.and_self,List.set_cons_zero,List.set_cons_succ,kM,fe,nJ,gy,gz,eW,znN,zm6,znw,ztd,zA7,List.append_nil,if_true]
  with_reducible first|refine eu (by simp only [pn]) (z.aw _ _ (by omega)) ?_
  simp -implicitDefEqProofs only [syms,aa,seval,pn,q1.lay,jm,↓ff,eR,dQ]
  refine zqp r _ _ (fun w2 l2 h' x s2 fT jc=>?_)
  (((with_reducible refine dK ?_ ?_ ?_);(· exact (by (simp only [dM]);have:=z.size;omega));(· exact x));replace z:=z.an x (by omega);(replace q0:=q0.over x);(replace q1:=q1.over x);(replace ow:=ow.over x);rw [ao h'])
  have gd:=cJ w2
  simp -implicitDefEqProofs only [syms,aa,seval,pn,gd,sX,zIc]
  have hz:=z.size
  have cR:=ow.fresh
  have hq1:=q1.lt
  obtain ⟨news,xz,DE⟩:=MZ (A:=A) (r:=aK.str) (by decide) (s2.lay [] (h'.size+0)) (fun cs y hr=>hr)
  obtain ⟨w3,h3,A3,g1,o3,ou,g4,g5⟩:=ER (t:=23) cM Ev rfl (by decide) (by rw [bB];omega) (ow.mono (cP.lay _ _ _)) xz DE (by omega) (by omega)
  rw [g1]
  have IL:C < A3:=by
   rcases g4 with e|e
   ·omega
   ·rw [bB] at e;omega
  refine nM (A:=A) (by kernel_rfl) (by rw [bB];omega) (by omega) (by simpa only [cq,bB,List.append_nil,List.length_cons,List.length_nil,Nat.add_zero] using ou) ?_
  replace q0:=q0.bR ou (by omega)
  replace q1:=q1.bR ou (by omega)
  replace z:=(z.aw [] (h'.size+0) (by omega)).step ou (by omega)
  clear ow s2
  rw [ao h3]
  have ac7:Am.one w3=true:=(o3.sl (by decide)).one
  obtain ⟨a3,n3,c3,rfl⟩:=Gk (o3.sl (by decide))
  simp -implicitDefEqProofs only [syms,aa,seval,pn]
  refine zuM q1 XI rfl rfl rfl (fun h4 q4 c4=>?_)
  have A7:=z.size
  replace q4:Holds h4 C (.row [.slice a3 n3 c3] 23 false):=q4
  refine nM (A:=C) (by kernel_rfl) (by rw [bB];omega) (by omega) (by simpa only [cq,bB,List.append_nil,List.length_cons,List.length_nil,Nat.add_zero] using c4) ?_
  replace q0:=q0.bR c4 (by omega)
  replace o3:=(o3.mono (cP.lay h3 [] (h3.size+0))).turn (fun _ _ _ _ h=>h) c4 (by omega) q4
  replace z:=(z.aw [] (h3.size+0) (by omega)).step c4 (by omega)
  clear q1
  rw [ao h4]
  simp -implicitDefEqProofs only [syms,aa,seval,pn]
  ((with_reducible refine ⟨z.cW.lay _ _,?_⟩);(intro _ h' zz x _);(simp only [cq,List.append_nil] at x);(replace q0:=q0.over x);(replace q4:=q4.over x);(replace o3:=o3.over x);(replace z:=zz);(clear zz);rw [ao h'])
  simp -implicitDefEqProofs only [syms,aa,seval,pn]
  rw [hw]
  have lz:c.body.take (i+1)=c.body.take i++[r]:=by rw [List.take_add_one,bo];rfl
  (rw [aR];with_reducible refine cz (m:=_) ?_ ⟨i+1,.slice a3 n3 c3,A3,lg++l2,_,rfl,z,⟨rfl,by omega,q0,q4,o3,IL,by rw [List.length_append];omega,fun x=>by rw [List.mem_append,b8,jc,lz];simp [or_and_right,exists_or]⟩,aB (by kernel_rfl)⟩;omega)
 ·rw [List.take_of_length_le (by omega)] at b8
  simp -implicitDefEqProofs only [syms,aa,seval,pn,q0.lay,↓zEm,eR,dQ]
  have sh:=ow.sl (by decide)
  clear ow
  refine zqp c.head _ _ (fun w2 l2 h' x s2 fT jc=>?_)
  (replace z:=z.an x (by omega);(replace q1:=q1.over x);(replace sh:=sh.over x);rw [ao h'])
  have gd:=cJ w2
  simp -implicitDefEqProofs only [syms,aa,seval,pn,gd]
  refine ziW l2 w2 _ (fun v => !bg lg v) _ (s2.lay _ _) (by omega) (fun y hc K' xe hK=>by
   rw [vW]
   exact zrT lg y wv C hc ((q1.on _ _).ext xe) ((sh.lay _ _).mono xe.inc) (by omega) K' hK) _ (fun h' x=>?_)
  (replace z:=z.an x (by omega);(replace q1:=q1.over x);(replace sh:=sh.over x);rw [ao h'])
  simp -implicitDefEqProofs only [syms,aa,seval,pn]
  refine lS _ _ _ _ (fun h' f1 x r1=>?_)
  (replace z:=z.an x (by omega);(replace q1:=q1.over x);(replace sh:=sh.over x);rw [ao h'])
  obtain ⟨k1,u1,v1,rfl⟩:=r1.1
  simp -implicitDefEqProofs only [syms,aa,seval,pn]
  refine r1.2 _ _ (aT.lay _ _ _ _) (fun h' x=>?_)
  (replace z:=z.an x (by omega);(replace q1:=q1.over x);(replace sh:=sh.over x);rw [ao h'])
  rw [zr5 jc b8] at hk
  simp -implicitDefEqProofs only [syms,aa,seval,pn]
  exact hk _ (z.aw _ _ (by omega))
theorem zEk (a:ab) (v:Value):(a.cells++[v])[0]? = some (.string a.says):=rfl
theorem zEl (a:ab) (v:Value):(Value.agg ⟨a.cells++[v]⟩).cells.toList=a.cells++[v]:=rfl
theorem zH8 (a:ab) (v:Value):(Value.agg ⟨a.cells++[v]⟩).cells.size=12:=rfl
theorem Kx (a:ab) (v:Value):(a.cells++[v]).length=12:=rfl
theorem Ky (a:ab) (x:Option Addr) (n c:Nat):(a.cells++[Value.slice x n c]).all Am.one=true:=rfl
theorem zEo (z0 z1 z2 z3 z4 z5 z6 z7 z8 z9 zH X4:Value):List.drop 12 [z0,z1,z2,z3,z4,z5,z6,z7,z8,z9,zH,X4]=[]:=rfl
theorem Xy:decide (12≤12)=true:=rfl
theorem zEn (a:ab) (v:Value):cut (a.cells++[v]) 0 12=some (a.cells++[v]):=rfl
theorem zEv (h:Heap) (l:List bh) (w i o:Nat) (v:Value) (hi:i < l.length):gA ae 71 (.pointer (some ⟨h.size+i,o,none⟩)) v (h.lay l w)=if v.cells.size=12 then qw l[i]? i o v.cells.toList h l w else none:=tc nL h l w i o v hi
theorem zD4 (s:ByteArray) (a:ab) (v:Value):(Value.agg ⟨.string s::(a.cells++[v])⟩).cells.toList=.string s::(a.cells++[v]):=rfl
theorem zHY (s:ByteArray) (a:ab) (v:Value):(Value.agg ⟨.string s::(a.cells++[v])⟩).cells.size=13:=rfl
theorem zD5 (s:ByteArray) (a:ab) (x:Option Addr) (n c:Nat):(Value.string s::(a.cells++[Value.slice x n c])).all Am.one=true:=rfl
theorem zHX (z0 z1 z2 z3 z4 z5 z6 z7 z8 z9 zH X4 z12:Value):List.drop 13 [z0,z1,z2,z3,z4,z5,z6,z7,z8,z9,zH,X4,z12]=[]:=rfl
theorem Vd:decide (13≤13)=true:=rfl
theorem Ve (s:ByteArray) (a:ab) (v:Value):(Value.string s::(a.cells++[v])).length=13:=rfl
theorem zBe (s:ByteArray) (a:ab) (v:Value):(Value.string s::(a.cells++[v]))[0]? = some (.string s):=rfl
theorem zBf (s:ByteArray) (a:ab) (v:Value):(Value.string s::(a.cells++[v]))[1]? = some (.string a.says):=rfl
theorem zCy (s:ByteArray) (a:ab) (v:Value):(Value.string s::(a.cells++[v]))[12]? = some v:=rfl
theorem Vc (s:ByteArray) (a:ab) (v:Value):cut (Value.string s::(a.cells++[v])) 1 11=some a.cells:=rfl
theorem zEt (h:Heap) (l:List bh) (w i o:Nat) (v:Value) (hi:i < l.length):gA ae 73 (.pointer (some ⟨h.size+i,o,none⟩)) v (h.lay l w)=if v.cells.size=13 then qw l[i]? i o v.cells.toList h l w else none:=tc ml h l w i o v hi
theorem zuf (d:au) (c:bP) (v:Value) (p0 p1 p2 p5 p6:Value) (q b:Int) (A B:Nat) (h:Heap) (cA:aY 1 h) (bw:(dw p0 p1 p2 p5 p6 q b).all Am.one=true) (h0:Sl aK.str h p0 d.aj) (h1:Sl aK.pred h p1 d.bA) (hs:d.aj.length≤1000) (hl:Sl aK.atom h v c.body) (j7:c.body.length≤1000) (q0:Holds h A (.row (dw p0 p1 p2 p5 p6 q b) 29 false)) (q1:Holds h B (.row (c.head.cells++[v]) 71 false)) (K:Value→Heap→Prop) (hk:∀ h',Ext h h'→K (.int .i64 (jR d c.head c.body)) h'):Ok Tryz.prog ae ov 84 [.pointer (some ⟨A,0,none⟩),.pointer (some ⟨B,0,none⟩)] h K:=by
 rw [ao h]
 have z:=Ext.refl h
 have bC:=cJ v
 refine Ok.aD rfl zAB (br N84) rfl (m:=7) rfl ?_
 simp -implicitDefEqProofs only [syms,aa,seval,c84,q0.lay,q1.lay,eQ,↓im,gP,gk,↓zEm,zpm,eR,dQ,bC]
 refine zkD d c.head c.body v _ _ _ _ _ _ _ _ (cA.lay _ _) bw (h0.lay _ _) (h1.lay _ _) hs (hl.lay _ _) j7 _ (fun h' x=>?_)
 (replace z:=z.an x (by omega);rw [ao h'])
 simp -implicitDefEqProofs only [syms,aa,seval,c84]
 exact hk _ (z.aw _ _ (by omega))
theorem zug (c:bP) (v:Value) (B:Nat) (h:Heap) (hl:Sl aK.atom h v c.body) (j7:c.body.length≤200) (q1:Holds h B (.row (c.head.cells++[v]) 71 false)) (K:Value→Heap→Prop) (hk:∀ h',Ext h h'→K (.int .i64 (zQ c)) h'):Ok Tryz.prog ae ov 86 [.pointer (some ⟨B,0,none⟩)] h K:=by
 rw [ao h]
 have z:=Ext.refl h
 have vV:∀ (h:Heap) (K:Value→Heap→Prop),aU (some (.agg (c.head.cells++[v]).toArray)) h K=K (.agg ⟨c.head.cells++[v]⟩) h:=fun _ _=>rfl
 refine Ok.aD rfl zAD (br N86) rfl (m:=3) rfl ?_
 simp -implicitDefEqProofs only [syms,aa,seval,c86,q1.lay,↓zEn,vV]
 refine zrU c v _ (hl.lay _ _) j7 _ (fun h' x=>?_)
 (replace z:=z.an x (by omega);rw [ao h'])
 simp -implicitDefEqProofs only [syms,aa,seval,c86]
 exact hk _ (z.aw _ _ (by omega))
theorem zuh (d:au) (g:dC) (v:Value) (p0 p1 p2 p5 p6:Value) (q b:Int) (A B:Nat) (h:Heap) (cA:aY 1 h) (bw:(dw p0 p1 p2 p5 p6 q b).all Am.one=true) (h0:Sl aK.str h p0 d.aj) (h1:Sl aK.pred h p1 d.bA) (hs:d.aj.length≤1000) (hl:Sl aK.atom h v g.body) (j7:g.body.length≤1000) (q0:Holds h A (.row (dw p0 p1 p2 p5 p6 q b) 29 false)) (q1:Holds h B (.row (.string g.to::(g.head.cells++[v])) 73 false)) (K:Value→Heap→Prop) (hk:∀ h',Ext h h'→K (.int .i64 (jR d g.head g.body)) h'):Ok Tryz.prog ae ov 88 [.pointer (some ⟨A,0,none⟩),.pointer (some ⟨B,0,none⟩)] h K:=by
 rw [ao h]
 have z:=Ext.refl h
 have bC:=cJ v
 refine Ok.aD rfl zAF (br N88) rfl (m:=7) rfl ?_
 simp -implicitDefEqProofs only [syms,aa,seval,c88,q0.lay,q1.lay,eQ,↓im,gP,gk,↓Vc,zCy,zpm,eR,dQ,bC]
 refine zkD d g.head g.body v _ _ _ _ _ _ _ _ (cA.lay _ _) bw (h0.lay _ _) (h1.lay _ _) hs (hl.lay _ _) j7 _ (fun h' x=>?_)
 (replace z:=z.an x (by omega);rw [ao h'])
 simp -implicitDefEqProofs only [syms,aa,seval,c88]
 exact hk _ (z.aw _ _ (by omega))
theorem zr8 (d:au):BG d=if ey (fun _ c=>qy d c) [] d.rules=0 then ey (fun _ g=>pI d g) [] d.bc else ey (fun _ c=>qy d c) [] d.rules:=by
 unfold BG
 rw [iq,iq,zri]
 split
 ·split
  ·rename_i h;exact h.symm
  ·rfl
 ·rfl
theorem zui (d:au) (p0 p1 p2 p5 p6:Value) (q b:Int) (h:Heap) (cA:aY 1 h) (bw:(dw p0 p1 p2 p5 p6 q b).all Am.one=true) (h0:Sl aK.str h p0 d.aj) (h1:Sl aK.pred h p1 d.bA) (hs:d.aj.length≤1000) (h5:Sl aK.clause h p5 d.rules) (AX:d.rules.length≤1000) (hb5:∀ r∈d.rules,r.body.length≤200) (h6:Sl aK.oA h p6 d.bc) (hs6:d.bc.length≤1000) (VB:∀ g∈d.bc,g.body.length≤200) (K:Value→Heap→Prop) (hk:∀ h',Ext h h'→K (.int .i64 (BG d)) h'):Ok Tryz.prog ae ov 56 [gQ p0 p1 p2 p5 p6 q b] h K:=by
 rw [ao h]
 have z:=Ext.refl h
 have jP:=cJ p5
 have kJ:=cJ p6
 have dF:=lD
 have lu:=fun (hh:Heap)=>h5.bd kA hh
 have kG:=fun (hh:Heap)=>h6.bd k9 hh
 rw [zr8] at hk
 obtain ⟨F,hF⟩:∃ F:List bP→bP→Int,F=fun _ c=>qy d c:=⟨_,rfl⟩
 obtain ⟨E,hE⟩:∃ E:List dC→dC→Int,E=fun _ g=>pI d g:=⟨_,rfl⟩
 rw [← hF,← hE] at hk
 refine Ok.aD rfl zz9 (br N56) rfl (m:=50) rfl ?_
 simp -implicitDefEqProofs only [syms,aa,seval,ki,eQ,fH,jP,lu]
 refine lG (fun h' x hq=>?_)
 have q0:=hq 0 _ rfl
 clear hq
 (replace z:=z.an x (by omega);rw [ao h'])
 obtain ⟨A0,dS⟩:∃ A0,A0=h.size+0:=⟨_,rfl⟩
 rw [← dS] at q0
 rw [← dS]
 obtain ⟨I1,aR⟩:∃ I:Nat→Env→Heap→Prop,I=(fun n e h'=>∃ (i:Nat) (h1:Heap),h'=h1.lay [] h1.low∧Ext h h1∧(n=d.rules.length - i∧i≤d.rules.length∧Holds h1 A0 (.row (dw p0 p1 p2 p5 p6 q b) 29 false)∧ey F [] d.rules=ey F (d.rules.take i) (d.rules.drop i))∧∃ J:Nat→Value,e=(J 0::.pointer (some ⟨A0,0,none⟩)::jr J 2 8 (p5::.int .i64 d.rules.length::.int .i64 i::jr J 13 38 ([])))):=⟨_,rfl⟩
 refine dg I1 _ (by rw [aR];exact ⟨0,_,rfl,z,⟨rfl,by omega,q0,rfl⟩,aB (by kernel_rfl)⟩) ?_
 intro n e h' aH
 rw [aR] at aH
 obtain ⟨i,bE,rfl,z,hinv,J,rfl⟩:=aH
 clear q0
 obtain ⟨rfl,hi,q0,dn⟩:=hinv
 have hw:=eg i (by omega)
 simp -implicitDefEqProofs only [syms,aa,seval,ki]
 refine bp (fun aS=>?_) (fun aS=>?_)
 ·obtain ⟨r,hr,bo⟩:=eP (l:=d.rules) (i:=i) (by omega)
  rw [dn,pB bo] at hk
  have nV:F (d.rules.take i) r=gh [jR d r.head r.body,zQ r]:=by rw [hF];rfl
  have hbr:=hb5 r (List.mem_of_getElem? bo)
  simp -implicitDefEqProofs only [syms,aa,seval,ki,jP]
  refine ML (h5.mono z.inc) kA nL (by omega) hr (fun p v hv hp=>?_)
  obtain ⟨av,nv,cv,rfl⟩:=Gk hv
  repeat' (first|simp -implicitDefEqProofs only [syms,aa,seval,ki]|with_reducible_and_instances refine ldc hp B5 nL ?_)
  clear hp
  simp -implicitDefEqProofs only [syms,aa,seval,ki,mr,nO,List.all_cons,List.all_nil,Am.one,Bool.and_true,Bool.true_and,Bool.and_self,List.set_cons_zero,List.set_cons_succ,kM,fe,nJ,gy,gz,zEv,zEl,zH8,Kx,Ky,zEo,Xy,List.append_nil,if_true]
  have Jg:∀ (bs:List bh) (w:Nat) (i:Nat) (b:bh),bs[i]? = some b→Holds (bE.lay bs w) (bE.size+i) b:=fun bs w i b hb=>⟨by rw [bB];have:=(List.getElem?_eq_some_iff.1 hb).1;omega,by rw [kX];exact hb⟩
  refine wh [.func (.func 84) ⟨[]⟩ ⟨[.pointer (some ⟨A0,0,none⟩),.pointer (some ⟨bE.size+0,0,none⟩)]⟩,.func (.func 86) ⟨[]⟩ ⟨[.pointer (some ⟨bE.size+0,0,none⟩)]⟩] [jR d r.head r.body,zQ r] _ _ (wx (i:=1) rfl rfl rfl (by simp)) (by simp) rfl (fun i fv e g1 g2=>?_) _ (fun h' x=>?_)
  ·match i,g1,g2 with
   |0,g1,g2 =>
    cases g1;cases g2
    exact ⟨⟨_,_,_,rfl⟩,fun hc K2 y fp=>by
     rw [vW]
     exact zuf d r _ _ _ _ _ _ _ _ A0 _ hc (Holds.fD ((cA.ext z).lay _ _) y) bw (((h0.mono z.inc).lay _ _).mono y.all) (((h1.mono z.inc).lay _ _).mono y.all) hs ((hv.lay _ _).mono y.all) (by omega) (Holds.fD (q0.on _ _) y) (Holds.fD (Jg _ _ 0 _ rfl) y) K2 fp⟩
   |1,g1,g2 =>
    cases g1;cases g2
    exact ⟨⟨_,_,_,rfl⟩,fun hc K2 y fp=>by
     rw [vW]
     exact zug r _ _ hc ((hv.lay _ _).mono y.all) hbr (Holds.fD (Jg _ _ 0 _ rfl) y) K2 fp⟩
  (replace z:=z.an x (by omega);(replace q0:=q0.over x);rw [ao h'])
  rw [← nV]
  clear Jg
  simp -implicitDefEqProofs only [syms,aa,seval,ki]
  refine iK (fun aO=>?_) (fun heq=>?_)
  ·rw [if_neg aO,if_neg aO] at hk
   simp -implicitDefEqProofs only [syms,aa,seval,ki]
   exact hk _ (z.aw _ _ (by omega))
  rw [if_pos heq] at hk
  simp -implicitDefEqProofs only [syms,aa,seval,ki]
  rw [hw]
  (rw [aR];with_reducible refine cz (m:=_) ?_ ⟨i+1,_,rfl,z,⟨rfl,by omega,q0,by rw [dn,pB bo,if_pos heq]⟩,aB (by kernel_rfl)⟩;omega)
 rw [dn,Bk (by omega),if_pos rfl] at hk
 clear dn hw hi aS
 simp -implicitDefEqProofs only [syms,aa,seval,ki,q0.lay,eQ,fW,kJ,kG]
 obtain ⟨I2,eM⟩:∃ I:Nat→Env→Heap→Prop,I=(fun n e h'=>∃ (i:Nat) (h1:Heap),h'=h1.lay [] h1.low∧Ext h h1∧(n=d.bc.length - i∧i≤d.bc.length∧Holds h1 A0 (.row (dw p0 p1 p2 p5 p6 q b) 29 false)∧ey E [] d.bc=ey E (d.bc.take i) (d.bc.drop i))∧∃ J:Nat→Value,e=(J 0::.pointer (some ⟨A0,0,none⟩)::jr J 2 23 (p6::.int .i64 d.bc.length::.int .i64 i::jr J 28 23 ([])))):=⟨_,rfl⟩
 refine dg I2 _ (by rw [eM];exact ⟨0,_,rfl,z,⟨rfl,by omega,q0,rfl⟩,aB (by kernel_rfl)⟩) ?_
 intro n e h' aH
 rw [eM] at aH
 obtain ⟨i,bE,rfl,z,hinv,J,rfl⟩:=aH
 clear q0
 obtain ⟨rfl,hi,q0,dn⟩:=hinv
 have hw:=eg i (by omega)
 simp -implicitDefEqProofs only [syms,aa,seval,ki]
 refine bp (fun aS=>?_) (fun aS=>?_)
 ·obtain ⟨r,hr,bo⟩:=eP (l:=d.bc) (i:=i) (by omega)
  rw [dn,pB bo] at hk
  have nV:E (d.bc.take i) r=gh [aX (!bg d.aj r.to) 6,aX (decide (r.to=r.head.says)) 11,jR d r.head r.body]:=by rw [hE];rfl
  have hbr:=VB r (List.mem_of_getElem? bo)
  simp -implicitDefEqProofs only [syms,aa,seval,ki,kJ]
  refine PC (h6.mono z.inc) k9 ml (by omega) hr (fun p v hv hp=>?_)
  obtain ⟨av,nv,cv,rfl⟩:=Gk hv
  repeat' (first|simp -implicitDefEqProofs only [syms,aa,seval,ki]|with_reducible_and_instances refine ldG hp wH ml ?_)
  clear hp
  simp -implicitDefEqProofs only [syms,aa,seval,ki,mr,nO,List.all_cons,List.all_nil,Am.one,Bool.and_true,Bool.true_and,Bool.and_self,List.set_cons_zero,List.set_cons_succ,kM,fe,nJ,gy,gz,zEt,zD4,zHY,Ve,zD5,zHX,Vd,Kx,Ky,zEo,List.append_nil,if_true]
  refine lG (fun h' x hq=>?_)
  have e0:=hq 0 _ rfl
  clear hq
  (replace z:=z.an x (by omega);(replace q0:=q0.over x);(replace hv:=hv.over x);rw [ao h'])
  obtain ⟨E0,nU⟩:∃ E0,E0=bE.size+0:=⟨_,rfl⟩
  rw [← nU] at e0
  rw [← nU]
  with_reducible first|refine eu (by simp only [ki]) (z.aw _ _ (by omega)) ?_
  simp -implicitDefEqProofs only [syms,aa,seval,ki,q0.lay,e0.lay,zBe,zBf,dF,eQ,↓im,gP,gk]
  refine LP d.aj r.to _ _ _ _ _ _ _ _ ((h0.mono z.inc).lay _ _) hs _ (fun h' x=>?_)
  (((with_reducible refine dK ?_ ?_ ?_);(· exact (by (simp only [dM]);have:=z.size;omega));(· exact x));replace z:=z.an x (by omega);(replace q0:=q0.over x);(replace e0:=e0.over x);(replace hv:=hv.over x);rw [ao h'])
  simp -implicitDefEqProofs only [syms,aa,seval,ki]
  (with_reducible_and_instances apply cm);(· rfl)
  simp -implicitDefEqProofs only [syms,aa,seval,ki]
  refine lS _ _ _ _ (fun h' f1 x r1=>?_)
  (((with_reducible refine dK ?_ ?_ ?_);(· exact (by (simp only [dM]);have:=z.size;omega));(· exact x));replace z:=z.an x (by omega);(replace q0:=q0.over x);(replace e0:=e0.over x);(replace hv:=hv.over x);rw [ao h'])
  simp -implicitDefEqProofs only [syms,aa,seval,ki,e0.lay,zBe,zBf,zEk,BJ,dF]
  rw [wg]
  simp -implicitDefEqProofs only [syms,aa,seval,ki]
  refine lS _ _ _ _ (fun h' f2 x r2=>?_)
  (((with_reducible refine dK ?_ ?_ ?_);(· exact (by (simp only [dM]);have:=z.size;omega));(· exact x));replace z:=z.an x (by omega);(replace q0:=q0.over x);(replace e0:=e0.over x);(replace hv:=hv.over x);(replace r1:=r1.over x);rw [ao h'])
  have r3:eK h' (.func (.func 88) ⟨[]⟩ ⟨[.pointer (some ⟨A0,0,none⟩),.pointer (some ⟨E0,0,none⟩)]⟩) (jR d r.head r.body):=⟨⟨_,_,_,rfl⟩,fun hc K2 y fp=>by
   rw [vW]
   exact zuh d r _ _ _ _ _ _ _ _ A0 E0 hc (Holds.fD (cA.ext z) y) bw ((h0.mono z.inc).mono y.all) ((h1.mono z.inc).mono y.all) hs (hv.mono y.all) (by omega) (Holds.fD q0 y) (Holds.fD e0 y) K2 fp⟩
  obtain ⟨k1,u1,v1,rfl⟩:=r1.1
  obtain ⟨k2,u2,v2,rfl⟩:=r2.1
  simp -implicitDefEqProofs only [syms,aa,seval,ki]
  refine Ep (by have:=z.size;omega) (by omega) ?_
  simp -implicitDefEqProofs only [syms,aa,seval,ki]
  refine wh [.func k1 u1 v1,.func k2 u2 v2,.func (.func 88) ⟨[]⟩ ⟨[.pointer (some ⟨A0,0,none⟩),.pointer (some ⟨E0,0,none⟩)]⟩] [aX (!bg d.aj r.to) 6,aX (decide (r.to=r.head.says)) 11,jR d r.head r.body] _ _ (wx (i:=0) rfl rfl rfl (by simp)) (by simp) rfl (fun i fv e g1 g2=>?_) _ (fun h' x=>?_)
  ·match i,g1,g2 with
   |0,g1,g2=>cases g1;cases g2;exact r1.lay _ _
   |1,g1,g2=>cases g1;cases g2;exact r2.lay _ _
   |2,g1,g2=>cases g1;cases g2;exact r3.lay _ _
  (((with_reducible refine dK ?_ ?_ ?_);(· exact (by (simp only [dM]);have:=z.size;omega));(· exact x));replace z:=z.an x (by omega);(replace q0:=q0.over x);(replace e0:=e0.over x);(replace hv:=hv.over x);(replace r1:=r1.over x);(replace r2:=r2.over x);rw [ao h'])
  rw [← nV]
  clear r1 r2 r3
  simp -implicitDefEqProofs only [syms,aa,seval,ki]
  ((with_reducible refine ⟨z.cW.lay _ _,?_⟩);(intro _ h' zz x _);(simp only [cq,List.append_nil] at x);(replace q0:=q0.over x);(replace z:=zz);(clear zz);rw [ao h'])
  simp -implicitDefEqProofs only [syms,aa,seval,ki]
  refine iK (fun aO=>?_) (fun heq=>?_)
  ·rw [if_neg aO] at hk
   simp -implicitDefEqProofs only [syms,aa,seval,ki]
   exact hk _ (z.aw _ _ (by omega))
  rw [if_pos heq] at hk
  simp -implicitDefEqProofs only [syms,aa,seval,ki]
  rw [hw]
  (rw [eM];with_reducible refine cz (m:=_) ?_ ⟨i+1,_,rfl,z,⟨rfl,by omega,q0,by rw [dn,pB bo,if_pos heq]⟩,aB (by kernel_rfl)⟩;omega)
 ·rw [dn,Bk (by omega)] at hk
  simp -implicitDefEqProofs only [syms,aa,seval,ki]
  exact hk _ (z.aw _ _ (by omega))
structure B1 (d:au):Prop where
 p:d.aj.length≤1000
 c:d.aV.length≤1000
 r:d.rules.length≤1000
 rb:∀ r∈d.rules,r.body.length≤200
 g:d.bc.length≤1000
 gb:∀ g∈d.bc,g.body.length≤200
theorem zt2 (d:au) (p0 p1 p2 p5 p6:Value) (q b:Int) (h:Heap) (cA:aY 1 h) (bw:(dw p0 p1 p2 p5 p6 q b).all Am.one=true) (hd:fO h p0 p1 p2 p5 p6 d) (hq:d.du=q) (hb:d.cD=b) (hn:B1 d) (K:Value→Heap→Prop) (hk:∀ h',Ext h h'→K (.int .i64 (mT d)) h'):Ok Tryz.prog ae ov 29 [gQ p0 p1 p2 p5 p6 q b] h K:=by
 rw [ao h]
 have z:=Ext.refl h
 obtain ⟨es,xb⟩:∃ es,es=[pj d.aj,rk d.bA,vp d.aj d.aV,vk d,BG d]:=⟨_,rfl⟩
 obtain ⟨po,NC⟩:∃ po:List Value,po=[.func (.func 52) ⟨[]⟩ ⟨[]⟩,.func (.func 53) ⟨[]⟩ ⟨[]⟩,.func (.func 54) ⟨[]⟩ ⟨[]⟩,.func (.func 55) ⟨[]⟩ ⟨[]⟩,.func (.func 56) ⟨[]⟩ ⟨[]⟩]:=⟨_,rfl⟩
 have Aw:mT d=gh es:=by rw [xb];rfl
 rw [Aw] at hk
 have dG:∀ (i:Nat) fv e,po[i]? = some fv→es[i]? = some e→∀ hc (K:Value→Heap→Prop),Ext h hc→(∀ h',Ext hc h'→K (.int .i64 e) h')→so Tryz.prog ae ov [gQ p0 p1 p2 p5 p6 q b] hc K fv:=by
  intro i fv e h1 h2 hc K2 y fp
  rw [NC] at h1
  rw [xb] at h2
  have iE:=hd.mono y.inc
  match i,h1,h2 with
  |0,h1,h2=>cases h1;cases h2;rw [pA];exact zuc d.aj _ _ _ _ _ _ _ hc (cA.ext y) iE.s0 K2 fp
  |1,h1,h2=>cases h1;cases h2;rw [pA];exact zub d.bA _ _ _ _ _ _ _ hc (cA.ext y) iE.s1 K2 fp
  |2,h1,h2=>cases h1;cases h2;rw [pA];exact zrF d _ _ _ _ _ _ _ hc bw iE.s0 iE.s2 hn.p hn.c K2 fp
  |3,h1,h2=>cases h1;cases h2;rw [pA];exact zpg d _ _ _ _ _ _ _ hc hq hb iE.s5 iE.s6 hn.r hn.g K2 fp
  |4,h1,h2=>cases h1;cases h2;rw [pA];exact zui d _ _ _ _ _ _ _ hc (cA.ext y) bw iE.s0 iE.s1 hn.p iE.s5 hn.r hn.rb iE.s6 hn.g hn.gb K2 fp
 have xf:po.length=5:=by rw [NC];rfl
 have sF:es.length=5:=by rw [xb];rfl
 refine Ok.aD rfl zzK (br N29) rfl (m:=20) rfl ?_
 simp -implicitDefEqProofs only [syms,aa,seval,wQ,eQ]
 refine lG (fun h' x hq=>?_)
 have q0:=hq 0 _ rfl
 have q1:=hq 1 _ rfl
 clear hq
 (replace z:=z.an x (by omega);rw [ao h'])
 obtain ⟨A0,dS⟩:∃ A0,A0=h.size+0:=⟨_,rfl⟩
 rw [← dS] at q0
 rw [← dS]
 obtain ⟨A1,mb⟩:∃ A1,A1=h.size+1:=⟨_,rfl⟩
 rw [← mb] at q1
 rw [← mb]
 have sf:Sl aK.IH h' (.slice (some ⟨A1,0,none⟩) 5 5) po:=by
  refine .inr ⟨A1,0,5,_,_,_,by rw [xf],by rw [xf];unfold maxLen;omega,.inl ⟨by unfold G;omega,by omega⟩,q1.lt,q1.get,fun j x hx=>⟨[x],?_,rfl,?_⟩⟩
  ·rw [NC] at hx
   match j,hx with
   |0,hx=>cases hx;rfl
   |1,hx=>cases hx;rfl
   |2,hx=>cases hx;rfl
   |3,hx=>cases hx;rfl
   |4,hx=>cases hx;rfl
  ·rw [NC] at hx
   match j,hx with
   |0,hx=>cases hx;rfl
   |1,hx=>cases hx;rfl
   |2,hx=>cases hx;rfl
   |3,hx=>cases hx;rfl
   |4,hx=>cases hx;rfl
 clear q1
 obtain ⟨sv,A4⟩:∃ sv,sv=Value.slice (some ⟨A1,0,none⟩) 5 5:=⟨_,rfl⟩
 rw [← A4] at sf ⊢
 obtain ⟨I1,aR⟩:∃ I:Nat→Env→Heap→Prop,I=(fun n e h'=>∃ (i:Nat) (h1:Heap),h'=h1.lay [] h1.low∧Ext h h1∧(n=5 - i∧i≤5∧Holds h1 A0 (.row (dw p0 p1 p2 p5 p6 q b) 29 false)∧Sl aK.IH h1 sv po∧(∀ x∈es.take i,x=0))∧∃ J:Nat→Value,e=(J 0::.pointer (some ⟨A0,0,none⟩)::jr J 2 6 (sv::.int .i64 5::.int .i64 i::jr J 11 10 ([])))):=⟨_,rfl⟩
 refine dg I1 _ (by rw [aR];exact ⟨0,_,rfl,z,⟨rfl,by omega,q0,sf,by simp⟩,aB (by kernel_rfl)⟩) ?_
 intro n e h' aH
 rw [aR] at aH
 obtain ⟨i,bE,rfl,z,hinv,J,rfl⟩:=aH
 clear q0 sf
 obtain ⟨rfl,hi,q0,sf,az⟩:=hinv
 have hw:=eg i (by omega)
 simp -implicitDefEqProofs only [syms,aa,seval,wQ]
 refine bp (fun aS=>?_) (fun aS=>?_)
 rotate_left
 ·rw [List.take_of_length_le (by omega)] at az
  rw [cH.2 az] at hk
  simp -implicitDefEqProofs only [syms,aa,seval,wQ]
  exact hk _ (z.aw _ _ (by omega))
 obtain ⟨fv,hf,VQ⟩:=eP (l:=po) (i:=i) (by omega)
 obtain ⟨e,he,qL⟩:=eP (l:=es) (i:=i) (by omega)
 have j9:=cJ fv
 simp -implicitDefEqProofs only [syms,aa,seval,wQ]
 repeat' ((first|with_reducible_and_instances refine ztH sf wU XO (by omega) hf (fun p hp=>?_)|with_reducible_and_instances refine fX hp B4 ?_) <;> simp -implicitDefEqProofs only [syms,aa,seval,wQ,j9])
 simp -implicitDefEqProofs only [syms,aa,seval,wQ,q0.lay,eQ,↓im,gP,gk]
 refine dG i fv e VQ qL _ _ (z.aw _ _ (by omega)) (fun h' x=>?_)
 (replace z:=z.an x (by omega);(replace q0:=q0.over x);(replace sf:=sf.over x);rw [ao h'])
 simp -implicitDefEqProofs only [syms,aa,seval,wQ]
 refine iK (fun aO=>?_) (fun heq=>?_)
 ·rw [zmS az qL aO] at hk
  simp -implicitDefEqProofs only [syms,aa,seval,wQ]
  exact hk _ (z.aw _ _ (by omega))
 ·simp -implicitDefEqProofs only [syms,aa,seval,wQ]
  rw [hw]
  (rw [aR];with_reducible refine cz (m:=_) ?_ ⟨i+1,_,rfl,z,⟨rfl,by omega,q0,sf,pf (i:=i) (P:=fun x:Int=>x=0) qL az heq⟩,aB (by kernel_rfl)⟩;omega)
end Go.Proofs.YtdplfgoifjjniaaGreatDoor
