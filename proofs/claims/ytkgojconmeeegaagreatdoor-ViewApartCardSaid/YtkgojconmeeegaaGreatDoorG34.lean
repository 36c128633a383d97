/- The code of some functions, node by node, for simp. Written by a program (mkcode.py). No condition. -/
import Derived.Test.YtkgojconmeeegaaGreatDoorG32
set_option linter.unusedSimpArgs false
set_option linter.unusedVariables false
set_option maxRecDepth 100000
set_option maxHeartbeats 0
namespace Go.Proofs.YtkgojconmeeegaaGreatDoor
open Go.Am
noncomputable def V9:=bA Tryz.f91
noncomputable def yJ:=PLift.up (by have c:=bB V9 Tryz.f91;simp only [aK,Tryz.f91,seval] at c;exact nd c <| nd @B9 <| nd @EP <| nd @HV <| nd @j5 <| nd @lV <| nd @gn <| nd @j7 <| @aa7)
theorem nZ:type_of% yJ.down:=yJ.down
noncomputable def Wa:=bA Tryz.f92
noncomputable def yK:=PLift.up (by have c:=bB Wa Tryz.f92;simp only [aK,Tryz.f92,seval] at c;exact nd c <| nd @B9 <| nd @Fe <| nd @EP <| nd @Kf <| nd @HY <| nd @Sr <| nd @xy <| nd @uz <| nd @mi <| nd @Ha <| nd @gn <| nd @xC <| @aa8)
theorem jR:type_of% yK.down:=yK.down
noncomputable def KX:=bA Tryz.f144
noncomputable def P6:=PLift.up (by have c:=bB KX Tryz.f144;simp only [aK,Tryz.f144,seval] at c;exact nd c <| nd @EP <| nd @Db <| nd @Kh <| nd @j5 <| nd @lV <| nd @dW <| nd @gn <| nd @j7 <| @zMh)
theorem fX:type_of% P6.down:=P6.down
noncomputable def Wb:=bA Tryz.f93
noncomputable def yL:=PLift.up (by have c:=bB Wb Tryz.f93;simp only [aK,Tryz.f93,seval] at c;exact nd c <| nd @B9 <| nd @Zy <| nd @EP <| nd @XJ <| nd @Db <| nd @xz <| nd @AH <| nd @dW <| nd @AM <| nd @gn <| nd @AN <| @aa9)
theorem qc:type_of% yL.down:=yL.down
noncomputable def KW:=bA Tryz.f143
noncomputable def P5:=PLift.up (by have c:=bB KW Tryz.f143;simp only [aK,Tryz.f143,seval] at c;exact nd c <| nd @dW <| nd @AM <| @zMg)
theorem Mm:type_of% P5.down:=P5.down
noncomputable def Wc:=bA Tryz.f94
noncomputable def yM:=PLift.up (by have c:=bB Wc Tryz.f94;simp only [aK,Tryz.f94,seval] at c;exact nd c <| nd @Sq <| nd @AG <| nd @XK <| nd @XL <| nd @AJ <| nd @AK <| nd @mi <| nd @AO <| nd @AP <| @aba)
theorem SS:type_of% yM.down:=yM.down
noncomputable def KZ:=bA Tryz.f146
noncomputable def P8:=PLift.up (by have c:=bB KZ Tryz.f146;simp only [aK,Tryz.f146,seval] at c;exact nd c <| nd @EP <| nd @mV <| nd @iu <| @zMj)
theorem zx:type_of% P8.down:=P8.down
noncomputable def Lo:=bA Tryz.f184
noncomputable def QB:=PLift.up (by have c:=bB Lo Tryz.f184;simp only [aK,Tryz.f184,seval] at c;exact nd c <| nd @dW <| nd @ct <| @zMI)
theorem Mw:type_of% QB.down:=QB.down
noncomputable def Lp:=bA Tryz.f185
noncomputable def QC:=PLift.up (by have c:=bB Lp Tryz.f185;simp only [aK,Tryz.f185,seval] at c;exact nd c <| nd @Mg <| nd @j6 <| nd @dW <| nd @ct <| nd @mV <| nd @iu <| @zMJ)
theorem oL:type_of% QC.down:=QC.down
noncomputable def K1:=bA Tryz.f148
noncomputable def Qa:=PLift.up (by have c:=bB K1 Tryz.f148;simp only [aK,Tryz.f148,seval] at c;exact nd c <| nd @Zv <| nd @Mg <| nd @HZ <| nd @H2 <| nd @j6 <| nd @lV <| nd @ct <| nd @mV <| nd @iu <| @zMl)
theorem jt:type_of% Qa.down:=Qa.down
noncomputable def Ls:=bA Tryz.f188
noncomputable def QF:=PLift.up (by have c:=bB Ls Tryz.f188;simp only [aK,Tryz.f188,seval] at c;exact nd c <| nd @lV <| @zMM)
theorem Fl:type_of% QF.down:=QF.down
noncomputable def Wd:=bA Tryz.f95
noncomputable def yN:=PLift.up (by have c:=bB Wd Tryz.f95;simp only [aK,Tryz.f95,seval] at c;exact nd c <| nd @Zz <| nd @Mh <| nd @EP <| nd @XK <| nd @XL <| nd @vI <| nd @XM <| nd @Ss <| nd @G7 <| nd @G8 <| nd @AJ <| nd @AK <| nd @dW <| nd @O6 <| nd @O7 <| nd @gn <| nd @AO <| nd @AP <| @abb)
theorem lA:type_of% yN.down:=yN.down
noncomputable def KY:=bA Tryz.f145
noncomputable def P7:=PLift.up (by have c:=bB KY Tryz.f145;simp only [aK,Tryz.f145,seval] at c;exact nd c <| nd @HZ <| nd @H2 <| nd @dW <| nd @ct <| nd @mV <| @zMi)
theorem Mn:type_of% P7.down:=P7.down
noncomputable def K0:=bA Tryz.f147
noncomputable def P9:=PLift.up (by have c:=bB K0 Tryz.f147;simp only [aK,Tryz.f147,seval] at c;exact nd c <| nd @O6 <| @zMk)
theorem Mo:type_of% P9.down:=P9.down
noncomputable def K3:=bA Tryz.f149
noncomputable def Qb:=PLift.up (by have c:=bB K3 Tryz.f149;simp only [aK,Tryz.f149,seval] at c;exact nd c <| nd @Ss <| nd @XN <| nd @dW <| nd @ct <| nd @mV <| @zMm)
theorem Mp:type_of% Qb.down:=Qb.down
noncomputable def VJ:=bA Tryz.f55
noncomputable def Z0:=PLift.up (by have c:=bB VJ Tryz.f55;simp only [aK,Tryz.f55,seval] at c;exact nd c <| nd @zLy <| nd @zNr <| nd @zNu <| nd @dW <| nd @zNx <| @aaJ)
theorem zF:type_of% Z0.down:=Z0.down
noncomputable def Lr:=bA Tryz.f187
noncomputable def QE:=PLift.up (by have c:=bB Lr Tryz.f187;simp only [aK,Tryz.f187,seval] at c;exact nd c <| @zML)
theorem Fk:type_of% QE.down:=QE.down
noncomputable def LA:=bA Tryz.f211
noncomputable def QR:=PLift.up (by have c:=bB LA Tryz.f211;simp only [aK,Tryz.f211,seval] at c;exact nd c <| nd @j5 <| nd @gn <| nd @j7 <| @zMY)
theorem rJ:type_of% QR.down:=QR.down
theorem Kc:ae.desc 198=some (.map 9 199):=by kernel_rfl
theorem tF:ae.desc 9=some .string:=by kernel_rfl
theorem Vd:ae.zero 199=some (.agg ⟨[]⟩):=by kernel_rfl
theorem UN:nV ae 199 []=some (.agg ⟨[]⟩):=by kernel_rfl
theorem TG {T:bK} {t kt et:TypeId} {A w:Nat} {met:List ByteArray} {a:ByteArray} {h1:Heap} {bs:List bh} {K:Value→Heap→Prop} (m:fJ Value.string h1 A met) (hd:T.desc t=some (.map kt et)) (hs:T.desc kt=some .string) (hz:T.zero et=some (.agg ⟨[]⟩)) (hK:K (.tuple #[.agg ⟨[]⟩,.bool (ba met a)]) (h1.lay bs w)):aW (xX T t (.map (some A)) (.string a) true (h1.lay bs w)) (h1.lay bs w) K :=
 zsS (kv:=Value.string) m (fun _=>rfl) hd (Ke hs) hz (fun hm=>by rw [cp.2 hm] at hK;exact hK) (fun hm=>by rw [Bool.eq_false_iff.2 (mt cp.1 hm)] at hK;exact hK)
theorem Ut {T:bK} {t kt et:TypeId} {A w:Nat} {met:List ByteArray} {a:ByteArray} {h1:Heap} {bs:List bh} {K:Value→Heap→Prop} (m:fJ Value.string h1 A met) (hd:T.desc t=some (.map kt et)) (hs:T.desc kt=some .string) (hK:∀ h',fJ Value.string h' A (met++[a])→fp A (h1.lay bs w) h'→K undef h'):iw (oB T t (.map (some A)) (.string a) (.agg ⟨[]⟩) (h1.lay bs w)) K :=
 zEi (kv:=Value.string) m (fun _=>rfl) (fun x=>OH x) hd (Ke hs) (fun h' m2 c=>hK h' (m2.same (fun b=>by rw [List.mem_cons,List.mem_append,List.mem_singleton];exact Or.comm)) c)
theorem J9 (h:Heap) (l:List bh) (w i o:Nat) (v:Value) (hi:i < l.length):ic ae 199 (.pointer (some ⟨h.size+i,o,none⟩)) v (h.lay l w)=if v.cells.size=0 then rz l[i]? i o v.cells.toList h l w else none:=uO (by kernel_rfl) h l w i o v hi
theorem zzz (s:ByteArray) (h:Heap) (cF:bj 1 h) (K:Value→Heap→Prop) (hk:∀ h',Ext h h'→K (.bool (nY s)) h'):Ok Tryz.prog ae ov 141 [.string s] h K :=
 UD s h cF K (fun g h' x=>by rw [bV.2 g] at hk;exact hk h' x) (fun g h' x=>by rw [Xg g] at hk;exact hk h' x)
theorem zzy (s:ByteArray) (h:Heap) (cF:bj 1 h) (K:Value→Heap→Prop) (hk:∀ h',Ext h h'→K (.bool (nY s)) h'):Ok Tryz.prog ae ov 142 [.string s] h K :=
 zrJ s h cF K (fun g h' x=>by rw [bV.2 g] at hk;exact hk h' x) (fun g h' x=>by rw [Xg g] at hk;exact hk h' x)
theorem zjX {l:List ByteArray} (h:l.length < 1∨16 < l.length):qW l=4:=if_pos h
theorem zv0 (l:List ByteArray) (p0 p1 p2 p5 p6:Value) (q b:Int) (h:Heap) (cF:bj 1 h) (hl:Sl aJ.str h p0 l) (K:Value→Heap→Prop) (hk:∀ h',Ext h h'→K (.int .i64 (qW l)) h'):Ok Tryz.prog ae ov 91 [gi p0 p1 p2 p5 p6 q b] h K:=by
 rw [ao h]
 have z:=Ext.refl h
 have hle:=hl.le
 have bx:=bY p0
 have dA:=fP
 have cz:=fun (hh:Heap)=>hl.bc cY hh
 refine Ok.aH rfl zD1 (br V9) rfl (m:=47) rfl ?_
 simp only [syms,aa,seval,nZ,ek,dY,bx,cz]
 refine bt (fun h1=>?_) (fun h1=>?_)
 ·rw [zjX (.inl (by omega))] at hk
  simp only [syms,aa,seval,nZ]
  exact hk _ (z.aw _ _ (by omega))
 simp only [syms,aa,seval,nZ]
 refine bt (fun h2=>?_) (fun h2=>?_)
 ·rw [zjX (.inr (by omega))] at hk
  simp only [syms,aa,seval,nZ]
  exact hk _ (z.aw _ _ (by omega))
 have Ap:qW l=eO (fun pre w=>gW [bd (!nY w) 3,bd (ba pre w) 5]) [] l:=if_neg (by omega)
 rw [Ap] at hk
 obtain ⟨F,hF⟩:∃ F:List ByteArray→ByteArray→Int,F=fun pre w=>gW [bd (!nY w) 3,bd (ba pre w) 5]:=⟨_,rfl⟩
 rw [← hF] at hk
 simp only [syms,aa,seval,nZ,Rw,ek,dY,bx,cz]
 refine ml (fun h' x hq=>?_)
 have q0:=hq 0 _ rfl
 have q1:=hq 1 _ rfl
 clear hq
 (replace z:=z.an x (by omega);rw [ao h'])
 obtain ⟨M,hM⟩:∃ M,M=h.size+1:=⟨_,rfl⟩
 rw [← hM] at q1
 rw [← hM]
 clear q0
 obtain ⟨I1,aS⟩:∃ I:Nat→Env→Heap→Prop,I=(fun n e h'=>∃ (i:Nat) (h1:Heap),h'=h1.lay [] h1.low∧Ext h h1∧(n=l.length - i∧i≤l.length∧fJ Value.string h1 M (l.take i)∧eO F [] l=eO F (l.take i) (l.drop i))∧∃ J:Nat→Value,e=(jr J 0 4 (.map (some M)::jr J 5 16 (p0::.int .i64 l.length::.int .i64 i::jr J 24 24 ([]))))):=⟨_,rfl⟩
 refine dj I1 _ (by rw [aS];exact ⟨0,_,rfl,z,⟨rfl,by omega,fJ.new q1,rfl⟩,aE (by kernel_rfl)⟩) ?_
 intro n e h' aL
 rw [aS] at aL
 obtain ⟨i,bH,rfl,z,hinv,J,rfl⟩:=aL
 clear q1
 obtain ⟨rfl,hi,q1,dK⟩:=hinv
 have hw:=eb i (by omega)
 simp only [syms,aa,seval,nZ]
 refine bt (fun aR=>?_) (fun aR=>?_)
 rotate_left
 ·rw [dK,El (by omega)] at hk
  simp only [syms,aa,seval,nZ]
  exact hk _ (z.aw _ _ (by omega))
 obtain ⟨r,hr,bz⟩:=eU (l:=l) (i:=i) (by omega)
 rw [dK,rk bz] at hk
 have pH:F (l.take i) r=gW [bd (!nY r) 3,bd (ba (l.take i) r) 5]:=by rw [hF]
 simp only [syms,aa,seval,nZ,bx]
 repeat' ((first|with_reducible_and_instances refine qV (hl.mono z.inc) cY oq (by omega) hr (fun p hp=>?_)|with_reducible_and_instances refine hY hp kc ?_) <;> simp only [syms,aa,seval,nZ,bx,dA])
 simp only [syms,aa,seval,nZ,Er,dA]
 refine TG q1 Kc tF Vd ?_
 simp only [syms,aa,seval,nZ,nT,pA,List.all_cons,List.all_nil,Am.one,Bool.and_true,Bool.true_and,Bool.and_self,List.set_cons_zero,List.set_cons_succ,lW,fV,pt,iA,iB,pF,J9]
 rw [yY]
 simp only [syms,aa,seval,nZ,nT,pA,List.all_cons,List.all_nil,Am.one,Bool.and_true,Bool.true_and,Bool.and_self,List.set_cons_zero,List.set_cons_succ,lW,fV,pt,iA,iB,pF,J9]
 refine zzz r _ ((cF.ext z).lay _ _) _ (fun h' x=>?_)
 (replace z:=z.an x (by omega);(replace q1:=q1.over x);rw [ao h'])
 clear hp
 simp only [syms,aa,seval,nZ]
 (with_reducible_and_instances apply b8);(· rfl)
 simp only [syms,aa,seval,nZ]
 refine nu _ _ _ _ (fun h' f1 x r1=>?_)
 (replace z:=z.an x (by omega);(replace q1:=q1.over x);rw [ao h'])
 simp only [syms,aa,seval,nZ]
 refine nu _ _ _ _ (fun h' f2 x r2=>?_)
 (replace z:=z.an x (by omega);(replace q1:=q1.over x);(replace r1:=r1.over x);rw [ao h'])
 obtain ⟨g1,u1,v1,rfl⟩:=r1.1
 obtain ⟨g2,u2,v2,rfl⟩:=r2.1
 simp only [syms,aa,seval,nZ]
 refine y4 [.func g1 u1 v1,.func g2 u2 v2] [bd (!nY r) 3,bd (ba (l.take i) r) 5] _ _ (zf (i:=0) rfl rfl rfl (by simp)) (by simp) rfl (fun i fv e h1 h2=>?_) _ (fun h' x=>?_)
 ·match i,h1,h2 with
  |0,h1,h2=>cases h1;cases h2;exact r1.lay _ _
  |1,h1,h2=>cases h1;cases h2;exact r2.lay _ _
 (replace z:=z.an x (by omega);(replace q1:=q1.over x);(replace r1:=r1.over x);(replace r2:=r2.over x);rw [ao h'])
 rw [← pH]
 clear r1 r2
 simp only [syms,aa,seval,nZ]
 refine iS (fun aP=>?_) (fun heq=>?_)
 ·rw [if_neg aP] at hk
  simp only [syms,aa,seval,nZ]
  exact hk _ (z.aw _ _ (by omega))
 rw [if_pos heq] at hk
 have M8:h.size≤M:=by omega
 simp only [syms,aa,seval,nZ,UN,W3]
 refine Ut q1 Kc tF (fun h3 q3 qd=>?_)
 replace z:=z.cM qd M8 (by omega)
 rw [ao h3]
 simp only [syms,aa,seval,nZ]
 rw [hw]
 have kS:l.take (i+1)=l.take i++[r]:=by rw [List.take_add_one,bz];rfl
 rw [← kS] at q3
 (rw [aS];with_reducible refine cB (m:=_) ?_ ⟨i+1,_,rfl,z,⟨rfl,by omega,q3,by rw [dK,rk bz,if_pos heq]⟩,aE (by kernel_rfl)⟩;omega)
theorem ztu {l:List bF} (h:32 < l.length):tj l=4:=if_pos h
theorem vJ (x y:Value):([x,y]:List Value)[0]? = some x:=rfl
theorem zd (x y:Value):([x,y]:List Value)[1]? = some y:=rfl
theorem zvZ (l:List bF) (p0 p1 p2 p5 p6:Value) (q b:Int) (h:Heap) (cF:bj 1 h) (hl:Sl aJ.pred h p1 l) (K:Value→Heap→Prop) (hk:∀ h',Ext h h'→K (.int .i64 (tj l)) h'):Ok Tryz.prog ae ov 92 [gi p0 p1 p2 p5 p6 q b] h K:=by
 rw [ao h]
 have z:=Ext.refl h
 have hle:=hl.le
 have bx:=bY p1
 have dA:=fP
 have cz:=fun (hh:Heap)=>hl.bc jS hh
 refine Ok.aH rfl zD2 (br Wa) rfl (m:=53) rfl ?_
 simp only [syms,aa,seval,jR,ek,eK,bx,cz]
 refine bt (fun h2=>?_) (fun h2=>?_)
 ·rw [ztu (by omega)] at hk
  simp only [syms,aa,seval,jR]
  exact hk _ (z.aw _ _ (by omega))
 have Ap:tj l=eO (fun pre x=>gW [bd (!nY x.name) 3,bd (ba (pre.map bF.name) x.name) 5,bd (decide (x.arity < 0∨4 < x.arity)) 4]) [] l:=if_neg (by omega)
 rw [Ap] at hk
 obtain ⟨F,hF⟩:∃ F:List bF→bF→Int,F=fun pre x=>gW [bd (!nY x.name) 3,bd (ba (pre.map bF.name) x.name) 5,bd (decide (x.arity < 0∨4 < x.arity)) 4]:=⟨_,rfl⟩
 rw [← hF] at hk
 simp only [syms,aa,seval,jR,Rw,ek,eK,bx,cz]
 refine ml (fun h' x hq=>?_)
 have q0:=hq 0 _ rfl
 have q1:=hq 1 _ rfl
 clear hq
 (replace z:=z.an x (by omega);rw [ao h'])
 obtain ⟨M,hM⟩:∃ M,M=h.size+1:=⟨_,rfl⟩
 rw [← hM] at q1
 rw [← hM]
 clear q0
 obtain ⟨I1,aS⟩:∃ I:Nat→Env→Heap→Prop,I=(fun n e h'=>∃ (i:Nat) (h1:Heap),h'=h1.lay [] h1.low∧Ext h h1∧(n=l.length - i∧i≤l.length∧fJ Value.string h1 M ((l.take i).map bF.name)∧eO F [] l=eO F (l.take i) (l.drop i))∧∃ J:Nat→Value,e=(jr J 0 3 (.map (some M)::jr J 4 11 (p1::.int .i64 l.length::.int .i64 i::jr J 18 36 ([]))))):=⟨_,rfl⟩
 refine dj I1 _ (by rw [aS];exact ⟨0,_,rfl,z,⟨rfl,by omega,fJ.new q1,rfl⟩,aE (by kernel_rfl)⟩) ?_
 intro n e h' aL
 rw [aS] at aL
 obtain ⟨i,bH,rfl,z,hinv,J,rfl⟩:=aL
 clear q1
 obtain ⟨rfl,hi,q1,dK⟩:=hinv
 have hw:=eb i (by omega)
 simp only [syms,aa,seval,jR]
 refine bt (fun aR=>?_) (fun aR=>?_)
 rotate_left
 ·rw [dK,El (by omega)] at hk
  simp only [syms,aa,seval,jR]
  exact hk _ (z.aw _ _ (by omega))
 obtain ⟨r,hr,bz⟩:=eU (l:=l) (i:=i) (by omega)
 rw [dK,rk bz] at hk
 have pH:F (l.take i) r=gW [bd (!nY r.name) 3,bd (ba ((l.take i).map bF.name) r.name) 5,bd (decide (r.arity < 0∨4 < r.arity)) 4]:=by rw [hF]
 simp only [syms,aa,seval,jR,bx]
 repeat' ((first|with_reducible_and_instances refine Sh (hl.mono z.inc) jS lq (by omega) hr (fun p hp=>?_)|with_reducible_and_instances refine Hc hp vQ lq ?_) <;> simp only [syms,aa,seval,jR,bx,dA])
 simp only [syms,aa,seval,jR,nT,pA,List.all_cons,List.all_nil,Am.one,Bool.and_true,Bool.true_and,Bool.and_self,List.set_cons_zero,List.set_cons_succ,lW,fV,pt,iA,iB,pF,OT,Er,dA]
 refine TG q1 Kc tF Vd ?_
 simp only [syms,aa,seval,jR,nT,pA,List.all_cons,List.all_nil,Am.one,Bool.and_true,Bool.true_and,Bool.and_self,List.set_cons_zero,List.set_cons_succ,lW,fV,pt,iA,iB,pF,J9]
 rw [yY]
 simp only [syms,aa,seval,jR,nT,pA,List.all_cons,List.all_nil,Am.one,Bool.and_true,Bool.true_and,Bool.and_self,List.set_cons_zero,List.set_cons_succ,lW,fV,pt,iA,iB,pF,J9]
 refine ml (fun h' x hq=>?_)
 have e0:=hq 0 _ rfl
 clear hq
 (replace z:=z.an x (by omega);(replace q1:=q1.over x);rw [ao h'])
 obtain ⟨E0,nI⟩:∃ E0,E0=bH.size+0:=⟨_,rfl⟩
 rw [← nI] at e0
 rw [← nI]
 clear hp
 with_reducible first|refine dH (by simp only [jR]) (z.aw _ _ (by omega)) ?_
 simp only [syms,aa,seval,jR,e0.lay,vJ,zd,dA]
 refine zzy r.name _ ((cF.ext z).lay _ _) _ (fun h' x=>?_)
 (((with_reducible refine dv ?_ ?_ ?_);(· exact (by (simp only [dx]);have:=z.size;omega));(· exact x));replace z:=z.an x (by omega);(replace q1:=q1.over x);(replace e0:=e0.over x);rw [ao h'])
 simp only [syms,aa,seval,jR]
 (with_reducible_and_instances apply b8);(· rfl)
 simp only [syms,aa,seval,jR]
 refine nu _ _ _ _ (fun h' f1 x r1=>?_)
 (((with_reducible refine dv ?_ ?_ ?_);(· exact (by (simp only [dx]);have:=z.size;omega));(· exact x));replace z:=z.an x (by omega);(replace q1:=q1.over x);(replace e0:=e0.over x);rw [ao h'])
 simp only [syms,aa,seval,jR]
 refine nu _ _ _ _ (fun h' f2 x r2=>?_)
 (((with_reducible refine dv ?_ ?_ ?_);(· exact (by (simp only [dx]);have:=z.size;omega));(· exact x));replace z:=z.an x (by omega);(replace q1:=q1.over x);(replace e0:=e0.over x);(replace r1:=r1.over x);rw [ao h'])
 simp only [syms,aa,seval,jR,e0.lay,vJ,zd,dA]
 refine bt (fun c1=>?_) (fun c1=>?_)
 ·have mg:decide (r.arity < 0∨4 < r.arity)=true:=by simp [c1]
  rw [mg] at pH
  simp only [syms,aa,seval,jR,e0.lay,vJ,zd,dA]
  refine nu _ _ _ _ (fun h' f3 x r3=>?_)
  (((with_reducible refine dv ?_ ?_ ?_);(· exact (by (simp only [dx]);have:=z.size;omega));(· exact x));replace z:=z.an x (by omega);(replace q1:=q1.over x);(replace e0:=e0.over x);(replace r1:=r1.over x);(replace r2:=r2.over x);rw [ao h'])
  obtain ⟨g1,u1,v1,rfl⟩:=r1.1
  obtain ⟨g2,u2,v2,rfl⟩:=r2.1
  obtain ⟨g3,u3,v3,rfl⟩:=r3.1
  simp only [syms,aa,seval,jR]
  refine xQ (by have:=z.size;omega) (by omega) ?_
  simp only [syms,aa,seval,jR]
  refine y4 [.func g1 u1 v1,.func g2 u2 v2,.func g3 u3 v3] [bd (!nY r.name) 3,bd (ba ((l.take i).map bF.name) r.name) 5,bd true 4] _ _ (zf (i:=0) rfl rfl rfl (by simp)) (by simp) rfl (fun i fv e h1 h2=>?_) _ (fun h' x=>?_)
  ·match i,h1,h2 with
   |0,h1,h2=>cases h1;cases h2;exact r1.lay _ _
   |1,h1,h2=>cases h1;cases h2;exact r2.lay _ _
   |2,h1,h2=>cases h1;cases h2;exact r3.lay _ _
  (((with_reducible refine dv ?_ ?_ ?_);(· exact (by (simp only [dx]);have:=z.size;omega));(· exact x));replace z:=z.an x (by omega);(replace q1:=q1.over x);(replace r1:=r1.over x);(replace r2:=r2.over x);(replace r3:=r3.over x);rw [ao h'])
  rw [← pH]
  clear r1 r2 r3
  simp only [syms,aa,seval,jR]
  ((with_reducible refine ⟨z.cN.lay _ _,?_⟩);(intro _ h' zz x _);(simp only [el,List.append_nil] at x);(replace q1:=q1.over x);(replace z:=zz);(clear zz);rw [ao h'])
  simp only [syms,aa,seval,jR]
  refine iS (fun aP=>?_) (fun heq=>?_)
  ·rw [if_neg aP] at hk
   simp only [syms,aa,seval,jR]
   exact hk _ (z.aw _ _ (by omega))
  ·rw [heq] at pH
   have:=bU.1 pH.symm 4 (by simp [bd])
   omega
 ·have mg:decide (r.arity < 0∨4 < r.arity)=decide (4 < r.arity):=by simp [c1]
  rw [mg] at pH
  simp only [syms,aa,seval,jR,e0.lay,vJ,zd,dA]
  repeat (rw [yY];simp only [syms,aa,seval,jR,e0.lay,vJ,zd,dA])
  refine nu _ _ _ _ (fun h' f3 x r3=>?_)
  (((with_reducible refine dv ?_ ?_ ?_);(· exact (by (simp only [dx]);have:=z.size;omega));(· exact x));replace z:=z.an x (by omega);(replace q1:=q1.over x);(replace e0:=e0.over x);(replace r1:=r1.over x);(replace r2:=r2.over x);rw [ao h'])
  obtain ⟨g1,u1,v1,rfl⟩:=r1.1
  obtain ⟨g2,u2,v2,rfl⟩:=r2.1
  obtain ⟨g3,u3,v3,rfl⟩:=r3.1
  simp only [syms,aa,seval,jR]
  refine xQ (by have:=z.size;omega) (by omega) ?_
  simp only [syms,aa,seval,jR]
  refine y4 [.func g1 u1 v1,.func g2 u2 v2,.func g3 u3 v3] [bd (!nY r.name) 3,bd (ba ((l.take i).map bF.name) r.name) 5,bd (decide (4 < r.arity)) 4] _ _ (zf (i:=0) rfl rfl rfl (by simp)) (by simp) rfl (fun i fv e h1 h2=>?_) _ (fun h' x=>?_)
  ·match i,h1,h2 with
   |0,h1,h2=>cases h1;cases h2;exact r1.lay _ _
   |1,h1,h2=>cases h1;cases h2;exact r2.lay _ _
   |2,h1,h2=>cases h1;cases h2;exact r3.lay _ _
  (((with_reducible refine dv ?_ ?_ ?_);(· exact (by (simp only [dx]);have:=z.size;omega));(· exact x));replace z:=z.an x (by omega);(replace q1:=q1.over x);(replace e0:=e0.over x);(replace r1:=r1.over x);(replace r2:=r2.over x);(replace r3:=r3.over x);rw [ao h'])
  rw [← pH]
  clear r1 r2 r3
  simp only [syms,aa,seval,jR]
  ((with_reducible refine ⟨z.cN.lay _ _,?_⟩);(intro _ h' zz x _);(simp only [el,List.append_nil] at x);(replace q1:=q1.over x);(replace e0:=e0.over x);(replace z:=zz);(clear zz);rw [ao h'])
  simp only [syms,aa,seval,jR]
  refine iS (fun aP=>?_) (fun heq=>?_)
  ·rw [if_neg aP] at hk
   simp only [syms,aa,seval,jR]
   exact hk _ (z.aw _ _ (by omega))
  rw [if_pos heq] at hk
  have M8:h.size≤M:=by omega
  simp only [syms,aa,seval,jR,e0.lay,vJ,dA,UN,W3]
  refine Ut q1 Kc tF (fun h3 q3 qd=>?_)
  replace z:=z.cM qd M8 (by omega)
  rw [ao h3]
  simp only [syms,aa,seval,jR]
  rw [hw]
  have kS:(l.take (i+1)).map bF.name=(l.take i).map bF.name++[r.name]:=by rw [List.take_add_one,bz];simp
  rw [← kS] at q3
  (rw [aS];with_reducible refine cB (m:=_) ?_ ⟨i+1,_,rfl,z,⟨rfl,by omega,q3,by rw [dK,rk bz,if_pos heq]⟩,aE (by kernel_rfl)⟩;omega)
theorem JT {α:Type} {r:aJ α} {h:Heap} {v:Value} {l:List α} (f:Sl r h v l):∃ a n c,v=.slice a n c:=by
 rcases f with ⟨rfl,_⟩|⟨A,o,c,row,u,ro,rfl,_⟩ <;> exact ⟨_,_,_,rfl⟩
theorem zC6 {h:Heap} {v:Value} {l:List ByteArray} (f:Sl aJ.str h v l) (i:Nat) (hi:i≤l.length):∃ a n c,ki ae 22 v none (some (.int .i64 i)) none=some (.slice a n c)∧Sl aJ.str h (.slice a n c) (l.take i):=by
 obtain ⟨u1,g1,g2⟩:=f.sub (a:=0) (b:=i) (by decide) cY oq (.inl ⟨rfl,rfl⟩) (.inr ⟨.i64,rfl⟩) (by omega) hi
 obtain ⟨a,n,c,rfl⟩:=JT g2
 exact ⟨a,n,c,g1,by simpa using g2⟩
theorem zoK {ps:List ByteArray} {c:aZ} (h:c.reads.length < 1∨16 < c.reads.length):ny ps c=4:=if_pos h
theorem zv1 (ps:List ByteArray) (c:aZ) (v:Value) (p0 p1 p2 p5 p6:Value) (q b:Int) (h:Heap) (bf:(cX p0 p1 p2 p5 p6 q b).all Am.one=true) (h0:Sl aJ.str h p0 ps) (hs:ps.length≤1000) (hv:Sl aJ.str h v c.reads) (K:Value→Heap→Prop) (hk:∀ h',Ext h h'→K (.int .i64 (ny ps c)) h'):Ok Tryz.prog ae ov 144 [gi p0 p1 p2 p5 p6 q b,.agg ⟨[.string c.who,v]⟩] h K:=by
 rw [ao h]
 have z:=Ext.refl h
 have hle:=hv.le
 have bx:=bY v
 have dA:=fP
 have cz:=fun (hh:Heap)=>hv.bc cY hh
 refine Ok.aH rfl zw6 (br KX) rfl (m:=47) rfl ?_
 simp only [syms,aa,seval,fX,ek,bx,cz]
 refine bt (fun h1=>?_) (fun h1=>?_)
 ·rw [zoK (.inl (by omega))] at hk
  simp only [syms,aa,seval,fX]
  exact hk _ (z.aw _ _ (by omega))
 simp only [syms,aa,seval,fX]
 refine bt (fun h2=>?_) (fun h2=>?_)
 ·rw [zoK (.inr (by omega))] at hk
  simp only [syms,aa,seval,fX]
  exact hk _ (z.aw _ _ (by omega))
 have Ap:ny ps c=eO (fun pre w=>gW [bd (!ba ps w) 6,bd (decide (w=c.who)) 11,bd (ba pre w) 5]) [] c.reads:=if_neg (by omega)
 rw [Ap] at hk
 obtain ⟨F,hF⟩:∃ F:List ByteArray→ByteArray→Int,F=fun pre w=>gW [bd (!ba ps w) 6,bd (decide (w=c.who)) 11,bd (ba pre w) 5]:=⟨_,rfl⟩
 rw [← hF] at hk
 simp only [syms,aa,seval,fX,bx,cz]
 refine ml (fun h' x hq=>?_)
 have q0:=hq 0 _ rfl
 have q1:=hq 1 _ rfl
 clear hq
 (replace z:=z.an x (by omega);rw [ao h'])
 obtain ⟨A0,dZ⟩:∃ A0,A0=h.size+0:=⟨_,rfl⟩
 rw [← dZ] at q0
 rw [← dZ]
 obtain ⟨A1,nH⟩:∃ A1,A1=h.size+1:=⟨_,rfl⟩
 rw [← nH] at q1
 rw [← nH]
 obtain ⟨I1,aS⟩:∃ I:Nat→Env→Heap→Prop,I=(fun n e h'=>∃ (i:Nat) (h1:Heap),h'=h1.lay [] h1.low∧Ext h h1∧(n=c.reads.length - i∧i≤c.reads.length∧Holds h1 A0 (.row (cX p0 p1 p2 p5 p6 q b) 28 false)∧Holds h1 A1 (.row [.string c.who,v] 75 false)∧eO F [] c.reads=eO F (c.reads.take i) (c.reads.drop i))∧∃ J:Nat→Value,e=(jr J 0 2 (.pointer (some ⟨A0,0,none⟩)::.pointer (some ⟨A1,0,none⟩)::jr J 4 15 (v::.int .i64 c.reads.length::.int .i64 i::jr J 22 27 ([]))))):=⟨_,rfl⟩
 refine dj I1 _ (by rw [aS];exact ⟨0,_,rfl,z,⟨rfl,by omega,q0,q1,rfl⟩,aE (by kernel_rfl)⟩) ?_
 intro n e h' aL
 rw [aS] at aL
 obtain ⟨i,bH,rfl,z,hinv,J,rfl⟩:=aL
 clear q0 q1
 obtain ⟨rfl,hi,q0,q1,dK⟩:=hinv
 have hw:=eb i (by omega)
 simp only [syms,aa,seval,fX]
 refine bt (fun aR=>?_) (fun aR=>?_)
 rotate_left
 ·rw [dK,El (by omega)] at hk
  simp only [syms,aa,seval,fX]
  exact hk _ (z.aw _ _ (by omega))
 obtain ⟨r,hr,bz⟩:=eU (l:=c.reads) (i:=i) (by omega)
 rw [dK,rk bz] at hk
 have pH:F (c.reads.take i) r=gW [bd (!ba ps r) 6,bd (decide (r=c.who)) 11,bd (ba (c.reads.take i) r) 5]:=by rw [hF]
 obtain ⟨a,m,cc,g1,g2⟩:=zC6 hv i hi
 have eR:∀ (h:Heap) (K:Value→Heap→Prop),aW (some (.slice a m cc)) h K=K (.slice a m cc) h:=fun _ _=>rfl
 simp only [syms,aa,seval,fX,bx]
 repeat' ((first|with_reducible_and_instances refine qV (hv.mono z.inc) cY oq (by omega) hr (fun p hp=>?_)|with_reducible_and_instances refine hY hp kc ?_) <;> simp only [syms,aa,seval,fX,bx,dA])
 clear hp
 with_reducible first|refine dH (by simp only [fX]) (z.aw _ _ (by omega)) ?_
 simp only [syms,aa,seval,fX,q0.lay,q1.lay,vJ,zd,dA,ek,↓fm,eX,eG]
 refine Ra ps r _ _ _ _ _ _ _ _ ((h0.mono z.inc).lay _ _) hs _ (fun h' x=>?_)
 (((with_reducible refine dv ?_ ?_ ?_);(· exact (by (simp only [dx]);have:=z.size;omega));(· exact x));replace z:=z.an x (by omega);(replace q0:=q0.over x);(replace q1:=q1.over x);rw [ao h'])
 simp only [syms,aa,seval,fX]
 (with_reducible_and_instances apply b8);(· rfl)
 simp only [syms,aa,seval,fX]
 refine nu _ _ _ _ (fun h' f1 x r1=>?_)
 (((with_reducible refine dv ?_ ?_ ?_);(· exact (by (simp only [dx]);have:=z.size;omega));(· exact x));replace z:=z.an x (by omega);(replace q0:=q0.over x);(replace q1:=q1.over x);rw [ao h'])
 simp only [syms,aa,seval,fX,q0.lay,q1.lay,vJ,zd,dA]
 rw [yY]
 simp only [syms,aa,seval,fX,q0.lay,q1.lay,vJ,zd,dA]
 refine nu _ _ _ _ (fun h' f2 x r2=>?_)
 (((with_reducible refine dv ?_ ?_ ?_);(· exact (by (simp only [dx]);have:=z.size;omega));(· exact x));replace z:=z.an x (by omega);(replace q0:=q0.over x);(replace q1:=q1.over x);(replace r1:=r1.over x);rw [ao h'])
 simp only [syms,aa,seval,fX,q0.lay,q1.lay,vJ,zd,bx,g1,eR,dA]
 refine Jx (c.reads.take i) _ r _ ((g2.mono z.inc).lay _ _) (by rw [List.length_take];omega) _ (fun h' x=>?_)
 (((with_reducible refine dv ?_ ?_ ?_);(· exact (by (simp only [dx]);have:=z.size;omega));(· exact x));replace z:=z.an x (by omega);(replace q0:=q0.over x);(replace q1:=q1.over x);(replace r1:=r1.over x);(replace r2:=r2.over x);rw [ao h'])
 simp only [syms,aa,seval,fX]
 refine nu _ _ _ _ (fun h' f3 x r3=>?_)
 (((with_reducible refine dv ?_ ?_ ?_);(· exact (by (simp only [dx]);have:=z.size;omega));(· exact x));replace z:=z.an x (by omega);(replace q0:=q0.over x);(replace q1:=q1.over x);(replace r1:=r1.over x);(replace r2:=r2.over x);rw [ao h'])
 obtain ⟨k1,u1,v1,rfl⟩:=r1.1
 obtain ⟨k2,u2,v2,rfl⟩:=r2.1
 obtain ⟨k3,u3,v3,rfl⟩:=r3.1
 simp only [syms,aa,seval,fX]
 refine xQ (by have:=z.size;omega) (by omega) ?_
 simp only [syms,aa,seval,fX]
 refine y4 [.func k1 u1 v1,.func k2 u2 v2,.func k3 u3 v3] [bd (!ba ps r) 6,bd (decide (r=c.who)) 11,bd (ba (c.reads.take i) r) 5] _ _ (zf (i:=0) rfl rfl rfl (by simp)) (by simp) rfl (fun i fv e h1 h2=>?_) _ (fun h' x=>?_)
 ·match i,h1,h2 with
  |0,h1,h2=>cases h1;cases h2;exact r1.lay _ _
  |1,h1,h2=>cases h1;cases h2;exact r2.lay _ _
  |2,h1,h2=>cases h1;cases h2;exact r3.lay _ _
 (((with_reducible refine dv ?_ ?_ ?_);(· exact (by (simp only [dx]);have:=z.size;omega));(· exact x));replace z:=z.an x (by omega);(replace q0:=q0.over x);(replace q1:=q1.over x);(replace r1:=r1.over x);(replace r2:=r2.over x);(replace r3:=r3.over x);rw [ao h'])
 rw [← pH]
 clear r1 r2 r3
 simp only [syms,aa,seval,fX]
 ((with_reducible refine ⟨z.cN.lay _ _,?_⟩);(intro _ h' zz x _);(simp only [el,List.append_nil] at x);(replace q0:=q0.over x);(replace q1:=q1.over x);(replace z:=zz);(clear zz);rw [ao h'])
 simp only [syms,aa,seval,fX]
 refine iS (fun aP=>?_) (fun heq=>?_)
 ·rw [if_neg aP] at hk
  simp only [syms,aa,seval,fX]
  exact hk _ (z.aw _ _ (by omega))
 rw [if_pos heq] at hk
 simp only [syms,aa,seval,fX]
 rw [hw]
 (rw [aS];with_reducible refine cB (m:=_) ?_ ⟨i+1,_,rfl,z,⟨rfl,by omega,q0,q1,by rw [dK,rk bz,if_pos heq]⟩,aE (by kernel_rfl)⟩;omega)
theorem zs6 (ps:List ByteArray) (c:aZ) (v:Value) (p0 p1 p2 p5 p6:Value) (q b:Int) (A B:Nat) (h:Heap) (bf:(cX p0 p1 p2 p5 p6 q b).all Am.one=true) (h0:Sl aJ.str h p0 ps) (hs:ps.length≤1000) (hv:Sl aJ.str h v c.reads) (q0:Holds h A (.row (cX p0 p1 p2 p5 p6 q b) 28 false)) (q1:Holds h B (.row [.string c.who,v] 75 false)) (K:Value→Heap→Prop) (hk:∀ h',Ext h h'→K (.int .i64 (ny ps c)) h'):Ok Tryz.prog ae ov 143 [.pointer (some ⟨A,0,none⟩),.pointer (some ⟨B,0,none⟩)] h K:=by
 rw [ao h]
 have z:=Ext.refl h
 refine Ok.aH rfl zw5 (br KW) rfl (m:=4) rfl ?_
 simp only [syms,aa,seval,Mm,q0.lay,q1.lay,ek,↓fm,eX,eG]
 refine zv1 ps c v _ _ _ _ _ _ _ _ bf (h0.lay _ _) hs (hv.lay _ _) _ (fun h' x=>?_)
 (replace z:=z.an x (by omega);rw [ao h'])
 simp only [syms,aa,seval,Mm]
 exact hk _ (z.aw _ _ (by omega))
theorem zNG (h:Heap) (l:List bh) (w i o:Nat) (v:Value) (hi:i < l.length):ic ae 75 (.pointer (some ⟨h.size+i,o,none⟩)) v (h.lay l w)=if v.cells.size=2 then rz l[i]? i o v.cells.toList h l w else none:=uO jD h l w i o v hi
theorem zs7 (d:au) (p0 p1 p2 p5 p6:Value) (q b:Int) (h:Heap) (bf:(cX p0 p1 p2 p5 p6 q b).all Am.one=true) (h0:Sl aJ.str h p0 d.ah) (h2:Sl aJ.clear h p2 d.aF) (hs:d.ah.length≤1000) (jc:d.aF.length≤1000) (K:Value→Heap→Prop) (hk:∀ h',Ext h h'→K (.int .i64 (td d.ah d.aF)) h'):Ok Tryz.prog ae ov 93 [gi p0 p1 p2 p5 p6 q b] h K:=by
 rw [ao h]
 have z:=Ext.refl h
 have bx:=bY p2
 have dA:=fP
 have cz:=fun (hh:Heap)=>h2.bc jT hh
 obtain ⟨F,hF⟩:∃ F:List aZ→aZ→Int,F=fun pre c=>gW [bd (!ba d.ah c.who) 6,bd (ba (pre.map aZ.who) c.who) 5,ny d.ah c]:=⟨_,rfl⟩
 have Ap:td d.ah d.aF=eO F [] d.aF:=by rw [hF];rfl
 rw [Ap] at hk
 refine Ok.aH rfl zD3 (br Wb) rfl (m:=42) rfl ?_
 simp only [syms,aa,seval,qc,Rw,ek,fN,bx,cz]
 refine ml (fun h' x hq=>?_)
 have q0:=hq 0 _ rfl
 have q1:=hq 1 _ rfl
 clear hq
 (replace z:=z.an x (by omega);rw [ao h'])
 obtain ⟨A0,dZ⟩:∃ A0,A0=h.size+0:=⟨_,rfl⟩
 rw [← dZ] at q0
 rw [← dZ]
 obtain ⟨M,hM⟩:∃ M,M=h.size+1:=⟨_,rfl⟩
 rw [← hM] at q1
 rw [← hM]
 have hAM:A0≠M:=by omega
 obtain ⟨I1,aS⟩:∃ I:Nat→Env→Heap→Prop,I=(fun n e h'=>∃ (i:Nat) (h1:Heap),h'=h1.lay [] h1.low∧Ext h h1∧(n=d.aF.length - i∧i≤d.aF.length∧Holds h1 A0 (.row (cX p0 p1 p2 p5 p6 q b) 28 false)∧fJ Value.string h1 M ((d.aF.take i).map aZ.who)∧eO F [] d.aF=eO F (d.aF.take i) (d.aF.drop i))∧∃ J:Nat→Value,e=(J 0::.pointer (some ⟨A0,0,none⟩)::J 2::.map (some M)::jr J 4 7 (p2::.int .i64 d.aF.length::.int .i64 i::jr J 14 29 ([])))):=⟨_,rfl⟩
 refine dj I1 _ (by rw [aS];exact ⟨0,_,rfl,z,⟨rfl,by omega,q0,fJ.new q1,rfl⟩,aE (by kernel_rfl)⟩) ?_
 intro n e h' aL
 rw [aS] at aL
 obtain ⟨i,bH,rfl,z,hinv,J,rfl⟩:=aL
 clear q0 q1
 obtain ⟨rfl,hi,q0,q1,dK⟩:=hinv
 have hw:=eb i (by omega)
 simp only [syms,aa,seval,qc]
 refine bt (fun aR=>?_) (fun aR=>?_)
 rotate_left
 ·rw [dK,El (by omega)] at hk
  simp only [syms,aa,seval,qc]
  exact hk _ (z.aw _ _ (by omega))
 obtain ⟨r,hr,bz⟩:=eU (l:=d.aF) (i:=i) (by omega)
 rw [dK,rk bz] at hk
 have pH:F (d.aF.take i) r=gW [bd (!ba d.ah r.who) 6,bd (ba ((d.aF.take i).map aZ.who) r.who) 5,ny d.ah r]:=by rw [hF]
 simp only [syms,aa,seval,qc,bx]
 refine Df (h2.mono z.inc) jT jD (by omega) hr (fun p v hv hp=>?_)
 have DT:Am.one v=true:=hv.one
 have ej:=bY v
 obtain ⟨av,nv,cv,rfl⟩:=JT hv
 repeat' (first|simp only [syms,aa,seval,qc,dA]|with_reducible_and_instances refine Hc hp tu jD ?_)
 simp only [syms,aa,seval,qc,nT,pA,List.all_cons,List.all_nil,Am.one,Bool.and_true,Bool.true_and,Bool.and_self,List.set_cons_zero,List.set_cons_succ,lW,fV,pt,iA,iB,pF,zNG,Er,dA]
 refine TG q1 Kc tF Vd ?_
 simp only [syms,aa,seval,qc,nT,pA,List.all_cons,List.all_nil,Am.one,Bool.and_true,Bool.true_and,Bool.and_self,List.set_cons_zero,List.set_cons_succ,lW,fV,pt,iA,iB,pF,J9]
 rw [yY]
 simp only [syms,aa,seval,qc,nT,pA,List.all_cons,List.all_nil,Am.one,Bool.and_true,Bool.true_and,Bool.and_self,List.set_cons_zero,List.set_cons_succ,lW,fV,pt,iA,iB,pF,J9]
 clear hp
 simp only [syms,aa,seval,qc,q0.lay,vJ,zd,dA,ek,↓fm,eX,eG]
 refine Ra d.ah r.who _ _ _ _ _ _ _ _ ((h0.mono z.inc).lay _ _) hs _ (fun h' x=>?_)
 have e0:=Holds.top (i:=0) x rfl
 (replace z:=z.an x (by omega);(replace q0:=q0.over x);(replace q1:=q1.over x);(replace hv:=hv.over x);rw [ao h'])
 obtain ⟨E0,nI⟩:∃ E0,E0=bH.size+0:=⟨_,rfl⟩
 rw [← nI] at e0
 rw [← nI]
 simp only [syms,aa,seval,qc]
 (with_reducible_and_instances apply b8);(· rfl)
 simp only [syms,aa,seval,qc]
 refine nu _ _ _ _ (fun h' f1 x r1=>?_)
 (replace z:=z.an x (by omega);(replace q0:=q0.over x);(replace q1:=q1.over x);(replace e0:=e0.over x);(replace hv:=hv.over x);rw [ao h'])
 simp only [syms,aa,seval,qc]
 refine nu _ _ _ _ (fun h' f2 x r2=>?_)
 (replace z:=z.an x (by omega);(replace q0:=q0.over x);(replace q1:=q1.over x);(replace e0:=e0.over x);(replace hv:=hv.over x);(replace r1:=r1.over x);rw [ao h'])
 have r3:fh h' (.func (.func 143) ⟨[]⟩ ⟨[.pointer (some ⟨A0,0,none⟩),.pointer (some ⟨E0,0,none⟩)]⟩) (ny d.ah r):=⟨⟨_,_,_,rfl⟩,fun hc K2 y gz=>by
  rw [uC]
  exact zs6 d.ah r _ _ _ _ _ _ _ _ A0 E0 hc bf ((h0.mono z.inc).mono y.all) hs (hv.mono y.all) (Holds.dq q0 y) (Holds.dq e0 y) K2 gz⟩
 obtain ⟨k1,u1,v1,rfl⟩:=r1.1
 obtain ⟨k2,u2,v2,rfl⟩:=r2.1
 simp only [syms,aa,seval,qc]
 refine y4 [.func k1 u1 v1,.func k2 u2 v2,.func (.func 143) ⟨[]⟩ ⟨[.pointer (some ⟨A0,0,none⟩),.pointer (some ⟨E0,0,none⟩)]⟩] [bd (!ba d.ah r.who) 6,bd (ba ((d.aF.take i).map aZ.who) r.who) 5,ny d.ah r] _ _ (zf (i:=0) rfl rfl rfl (by simp)) (by simp) rfl (fun i fv e h1 h2=>?_) _ (fun h' x=>?_)
 ·match i,h1,h2 with
  |0,h1,h2=>cases h1;cases h2;exact r1.lay _ _
  |1,h1,h2=>cases h1;cases h2;exact r2.lay _ _
  |2,h1,h2=>cases h1;cases h2;exact r3.lay _ _
 (replace z:=z.an x (by omega);(replace q0:=q0.over x);(replace q1:=q1.over x);(replace e0:=e0.over x);(replace hv:=hv.over x);(replace r1:=r1.over x);(replace r2:=r2.over x);rw [ao h'])
 rw [← pH]
 clear r1 r2 r3
 simp only [syms,aa,seval,qc]
 refine iS (fun aP=>?_) (fun heq=>?_)
 ·rw [if_neg aP] at hk
  simp only [syms,aa,seval,qc]
  exact hk _ (z.aw _ _ (by omega))
 rw [if_pos heq] at hk
 have M8:h.size≤M:=by omega
 simp only [syms,aa,seval,qc,e0.lay,vJ,dA,UN,W3]
 refine Ut q1 Kc tF (fun h3 q3 qd=>?_)
 replace z:=z.cM qd M8 (by omega)
 replace q0:=q0.bE qd hAM
 rw [ao h3]
 simp only [syms,aa,seval,qc]
 rw [hw]
 have kS:(d.aF.take (i+1)).map aZ.who=(d.aF.take i).map aZ.who++[r.who]:=by rw [List.take_add_one,bz];simp
 rw [← kS] at q3
 (rw [aS];with_reducible refine cB (m:=_) ?_ ⟨i+1,_,rfl,z,⟨rfl,by omega,q0,q3,by rw [dK,rk bz,if_pos heq]⟩,aE (by kernel_rfl)⟩;omega)
theorem zoU (a:ab):a.val.cells.size=11:=rfl
theorem zod (a:ab):a.cells.length=11:=rfl
theorem zoz (a:ab):a.cells.all Am.one=true:=rfl
theorem zuQ (z0 z1 z2 z3 z4 z5 z6 z7 z8 z9 xP:Value):List.drop 11 [z0,z1,z2,z3,z4,z5,z6,z7,z8,z9,xP]=[]:=rfl
theorem Jf:decide (11≤11)=true:=rfl
theorem zqr {d:au} (h:d.dB < 0∨1000 < d.dB∨d.cG < 1∨1048576 < d.cG∨64 < d.rules.length+d.bo.length):CJ d=bd true 4:=by
 unfold CJ
 congr 1
 simp only [Bool.or_eq_true,decide_eq_true_eq]
 omega
theorem zol {d:au} (h:¬ (d.dB < 0∨1000 < d.dB∨d.cG < 1∨1048576 < d.cG∨64 < d.rules.length+d.bo.length)):CJ d=bd false 4:=by
 unfold CJ
 congr 1
 simp only [Bool.or_eq_false_iff,decide_eq_false_iff_not]
 omega
theorem zqy (d:au) (p0 p1 p2 p5 p6:Value) (q b:Int) (h:Heap) (hq:d.dB=q) (hb:d.cG=b) (h5:Sl aJ.clause h p5 d.rules) (h6:Sl aJ.qg h p6 d.bo) (D0:d.rules.length≤1000) (hs6:d.bo.length≤1000) (K:Value→Heap→Prop) (hk:∀ h',Ext h h'→K (.int .i64 (CJ d)) h'):Ok Tryz.prog ae ov 94 [gi p0 p1 p2 p5 p6 q b] h K:=by
 rw [ao h]
 have z:=Ext.refl h
 have ji:=bY p5
 have kG:=bY p6
 have mO:=fun (hh:Heap)=>h5.bc my hh
 have lQ:=fun (hh:Heap)=>h6.bc nE hh
 have hw:IntKind.i64.wrap ((d.rules.length:Int)+(d.bo.length:Int))=((d.rules.length+d.bo.length:Nat):Int):=by rw [wrap_i64 (by omega) (by omega)];omega
 refine Ok.aH rfl zD4 (br Wc) rfl (m:=38) rfl ?_
 simp only [syms,aa,seval,SS,ek,Hf,Hg,gB,gN,ji,kG,mO,lQ,hw]
 repeat' ((with_reducible refine bt (fun _=>?_) (fun _=>?_)) <;> simp only [syms,aa,seval,SS,ek,Hf,Hg,gB,gN,ji,kG,mO,lQ,hw])
 all_goals
  refine nu _ _ _ _ (fun h' f1 x r1=>?_)
  (replace z:=z.an x (by omega);rw [ao h'])
  obtain ⟨k1,u1,v1,rfl⟩:=r1.1
  simp only [syms,aa,seval,SS]
  refine r1.2 _ _ (aM.lay _ _ _ _) (fun h' x=>?_)
  (replace z:=z.an x (by omega);rw [ao h'])
  first
   |rw [zqr (by omega)] at hk
   |rw [zol (by omega)] at hk
  simp only [syms,aa,seval,SS]
  exact hk _ (z.aw _ _ (by omega))
theorem zs3 (d:au) (a:ab) (p0 p1 p2 p5 p6:Value) (q b:Int) (A B:Nat) (h:Heap) (cF:bj 1 h) (bf:(cX p0 p1 p2 p5 p6 q b).all Am.one=true) (h0:Sl aJ.str h p0 d.ah) (h1:Sl aJ.pred h p1 d.bG) (hs:d.ah.length≤1000) (q0:Holds h A (.row (cX p0 p1 p2 p5 p6 q b) 28 false)) (q1:Holds h B (.row a.cells 34 false)) (K:Value→Heap→Prop) (hk:∀ h',Ext h h'→K (.int .i64 (ia d a)) h'):Ok Tryz.prog ae ov 184 [.pointer (some ⟨A,0,none⟩),.pointer (some ⟨B,0,none⟩)] h K:=by
 rw [ao h]
 have z:=Ext.refl h
 refine Ok.aH rfl zxw (br Lo) rfl (m:=4) rfl ?_
 simp only [syms,aa,seval,Mw,q0.lay,q1.lay,ek,↓fm,eX,eG,ec,↓eM,eh,dC]
 refine UC d a _ _ _ _ _ _ _ _ (cF.lay _ _) bf (h0.lay _ _) (h1.lay _ _) hs _ (fun h' x=>?_)
 (replace z:=z.an x (by omega);rw [ao h'])
 simp only [syms,aa,seval,Mw]
 exact hk _ (z.aw _ _ (by omega))
theorem zs4 (d:au) (l:List ab) (v:Value) (p0 p1 p2 p5 p6:Value) (q b:Int) (A B:Nat) (h:Heap) (cF:bj 1 h) (bf:(cX p0 p1 p2 p5 p6 q b).all Am.one=true) (h0:Sl aJ.str h p0 d.ah) (h1:Sl aJ.pred h p1 d.bG) (hs:d.ah.length≤1000) (hl:Sl aJ.atom h v l) (jc:l.length≤1000) (q0:Holds h A (.row (cX p0 p1 p2 p5 p6 q b) 28 false)) (q1:Holds h B (.row [v] 44 false)) (K:Value→Heap→Prop) (hk:∀ h',Ext h h'→K (.int .i64 (Di d l)) h'):Ok Tryz.prog ae ov 185 [.pointer (some ⟨B,0,none⟩),.pointer (some ⟨A,0,none⟩)] h K:=by
 rw [ao h]
 have z:=Ext.refl h
 have bx:=bY v
 have cz:=fun (hh:Heap)=>hl.bc bL hh
 obtain ⟨F,hF⟩:∃ F:List ab→ab→Int,F=fun _ a=>ia d a:=⟨_,rfl⟩
 have Ap:Di d l=eO F [] l:=by rw [hF];rfl
 rw [Ap] at hk
 refine Ok.aH rfl zxx (br Lp) rfl (m:=17) rfl ?_
 simp only [syms,aa,seval,oL,q1.lay,bx,cz]
 obtain ⟨I1,aS⟩:∃ I:Nat→Env→Heap→Prop,I=(fun n e h'=>∃ (i:Nat) (h1:Heap),h'=h1.lay [] h1.low∧Ext h h1∧(n=l.length - i∧i≤l.length∧Holds h1 A (.row (cX p0 p1 p2 p5 p6 q b) 28 false)∧eO F [] l=eO F (l.take i) (l.drop i))∧∃ J:Nat→Value,e=(J 0::.pointer (some ⟨A,0,none⟩)::jr J 2 4 (v::.int .i64 l.length::.int .i64 i::jr J 9 10 ([])))):=⟨_,rfl⟩
 refine dj I1 _ (by rw [aS];exact ⟨0,_,rfl,z,⟨rfl,by omega,q0,rfl⟩,aE (by kernel_rfl)⟩) ?_
 intro n e h' aL
 rw [aS] at aL
 obtain ⟨i,bH,rfl,z,hinv,J,rfl⟩:=aL
 clear q0
 obtain ⟨rfl,hi,q0,dK⟩:=hinv
 have hw:=eb i (by omega)
 simp only [syms,aa,seval,oL]
 refine bt (fun aR=>?_) (fun aR=>?_)
 rotate_left
 ·rw [dK,El (by omega)] at hk
  simp only [syms,aa,seval,oL]
  exact hk _ (z.aw _ _ (by omega))
 obtain ⟨r,hr,bz⟩:=eU (l:=l) (i:=i) (by omega)
 rw [dK,rk bz] at hk
 have pH:F (l.take i) r=ia d r:=by rw [hF]
 simp only [syms,aa,seval,oL,bx]
 repeat' ((first|with_reducible_and_instances refine pT (hl.mono z.inc) bL bO (by omega) hr (fun p hp=>?_)|with_reducible_and_instances refine mW hp fx bO ?_) <;> simp only [syms,aa,seval,oL,bx])
 clear hp
 simp only [syms,aa,seval,oL,nT,pA,List.all_cons,List.all_nil,Am.one,Bool.and_true,Bool.true_and,Bool.and_self,List.set_cons_zero,List.set_cons_succ,lW,fV,pt,iA,iB,pF,zoU,zod,zoz,zuQ,Jf,List.append_nil,if_true,q0.lay,ek,↓fm,eX,eG,ec,↓eM,eh,dC]
 refine UC d r _ _ _ _ _ _ _ _ ((cF.ext z).lay _ _) bf ((h0.mono z.inc).lay _ _) ((h1.mono z.inc).lay _ _) hs _ (fun h' x=>?_)
 (replace z:=z.an x (by omega);(replace q0:=q0.over x);rw [ao h'])
 rw [← pH]
 simp only [syms,aa,seval,oL]
 refine iS (fun aP=>?_) (fun heq=>?_)
 ·rw [if_neg aP] at hk
  simp only [syms,aa,seval,oL]
  exact hk _ (z.aw _ _ (by omega))
 rw [if_pos heq] at hk
 simp only [syms,aa,seval,oL]
 rw [hw]
 (rw [aS];with_reducible refine cB (m:=_) ?_ ⟨i+1,_,rfl,z,⟨rfl,by omega,q0,by rw [dK,rk bz,if_pos heq]⟩,aE (by kernel_rfl)⟩;omega)
theorem zll (d:au) (a:ab) (l:List ab) (v:Value) (p0 p1 p2 p5 p6:Value) (q b:Int) (h:Heap) (cF:bj 1 h) (bf:(cX p0 p1 p2 p5 p6 q b).all Am.one=true) (h0:Sl aJ.str h p0 d.ah) (h1:Sl aJ.pred h p1 d.bG) (hs:d.ah.length≤1000) (hl:Sl aJ.atom h v l) (jc:l.length≤1000) (K:Value→Heap→Prop) (hk:∀ h',Ext h h'→K (.int .i64 (kV d a l)) h'):Ok Tryz.prog ae ov 146 [gi p0 p1 p2 p5 p6 q b,a.val,v] h K:=by
 rw [ao h]
 have z:=Ext.refl h
 have bx:=bY v
 have cz:=fun (hh:Heap)=>hl.bc bL hh
 obtain ⟨av,nv,cv,rfl⟩:=JT hl
 refine Ok.aH rfl zw8 (br KZ) rfl (m:=12) rfl ?_
 simp only [syms,aa,seval,zx,ek,ec,bx,cz]
 rw [yY]
 simp only [syms,aa,seval,zx,bx,cz]
 refine nu _ _ _ _ (fun h' f1 x r1=>?_)
 have q0:=Holds.top (i:=0) x rfl
 have q1:=Holds.top (i:=1) x rfl
 have q2:=Holds.top (i:=2) x rfl
 (replace z:=z.an x (by omega);rw [ao h'])
 obtain ⟨A0,dZ⟩:∃ A0,A0=h.size+0:=⟨_,rfl⟩
 rw [← dZ] at q0
 rw [← dZ]
 obtain ⟨A1,nH⟩:∃ A1,A1=h.size+1:=⟨_,rfl⟩
 rw [← nH] at q1
 rw [← nH]
 obtain ⟨A2,IB⟩:∃ A2,A2=h.size+2:=⟨_,rfl⟩
 rw [← IB] at q2
 rw [← IB]
 have r0:fh h' (.func (.func 184) ⟨[]⟩ ⟨[.pointer (some ⟨A0,0,none⟩),.pointer (some ⟨A1,0,none⟩)]⟩) (ia d a):=⟨⟨_,_,_,rfl⟩,fun hc K2 y gz=>by
  rw [uC]
  exact zs3 d a _ _ _ _ _ _ _ A0 A1 hc (Holds.dq (cF.ext z) y) bf ((h0.mono z.inc).mono y.all) ((h1.mono z.inc).mono y.all) hs (Holds.dq q0 y) (Holds.dq q1 y) K2 gz⟩
 have r2:fh h' (.func (.func 185) ⟨[]⟩ ⟨[.pointer (some ⟨A2,0,none⟩),.pointer (some ⟨A0,0,none⟩)]⟩) (Di d l):=⟨⟨_,_,_,rfl⟩,fun hc K2 y gz=>by
  rw [uC]
  exact zs4 d l _ _ _ _ _ _ _ _ A0 A2 hc (Holds.dq (cF.ext z) y) bf ((h0.mono z.inc).mono y.all) ((h1.mono z.inc).mono y.all) hs ((hl.mono z.inc).mono y.all) jc (Holds.dq q0 y) (Holds.dq q2 y) K2 gz⟩
 obtain ⟨k1,u1,v1,rfl⟩:=r1.1
 simp only [syms,aa,seval,zx]
 refine y4 [.func (.func 184) ⟨[]⟩ ⟨[.pointer (some ⟨A0,0,none⟩),.pointer (some ⟨A1,0,none⟩)]⟩,.func k1 u1 v1,.func (.func 185) ⟨[]⟩ ⟨[.pointer (some ⟨A2,0,none⟩),.pointer (some ⟨A0,0,none⟩)]⟩] [ia d a,bd (decide (6 < l.length)) 4,Di d l] _ _ (zf (i:=0) rfl rfl rfl (by simp)) (by simp) rfl (fun i fv e h1 h2=>?_) _ (fun h' x=>?_)
 ·match i,h1,h2 with
  |0,h1,h2=>cases h1;cases h2;exact r0.lay _ _
  |1,h1,h2 =>
   cases h1;cases h2
   have e:decide (6 < l.length)=decide ((l.length:Int) > 6):=by rw [Bool.eq_iff_iff,decide_eq_true_iff,decide_eq_true_iff];omega
   rw [e]
   exact r1.lay _ _
  |2,h1,h2=>cases h1;cases h2;exact r2.lay _ _
 (replace z:=z.an x (by omega);(replace q0:=q0.over x);(replace q1:=q1.over x);(replace q2:=q2.over x);(replace r1:=r1.over x);rw [ao h'])
 simp only [syms,aa,seval,zx]
 exact hk _ (z.aw _ _ (by omega))
theorem UQ (a:ab) (v:Value):(a.cells++[v])[11]? = some v:=rfl
theorem Jk (a:ab) (v:Value):cut (a.cells++[v]) 0 11=some a.cells:=rfl
theorem zNH:pU ae 22 22=true:=by kernel_rfl
theorem zos (l:List ByteArray) (v fv:Value) (pr:ByteArray→Bool) (h:Heap) (hl:Sl aJ.str h v l) (hs:l.length≤1000) (Aq:∀ (x:ByteArray) (hc:Heap) (K:Value→Heap→Prop),Ext h hc→(∀ h',Ext hc h'→K (.bool (pr x)) h')→nW Tryz.prog ae ov [.string x] hc K fv) (K:Value→Heap→Prop)
 (hk:∀ h',Ext h h'→K (.int .i64 (j4 pr l)) h'):Ok Tryz.prog ae ov 211 [v,fv] h K:=by
 rw [ao h]
 have z:=Ext.refl h
 have bx:=bY v
 have dA:=fP
 have cz:=fun (hh:Heap)=>hl.bc cY hh
 refine Ok.aH rfl zxJ (br LA) rfl (m:=17) rfl ?_
 simp only [syms,aa,seval,rJ,bx,cz]
 obtain ⟨I1,aS⟩:∃ I:Nat→Env→Heap→Prop,I=(fun n e h'=>∃ (i:Nat) (h1:Heap),h'=h1.lay [] h1.low∧Ext h h1∧(n=l.length - i∧i≤l.length∧∀ x∈l.take i,pr x=false)∧∃ J:Nat→Value,e=(v::fv::jr J 2 5 (.int .i64 l.length::.int .i64 i::jr J 9 10 ([])))):=⟨_,rfl⟩
 refine dj I1 _ (by rw [aS];exact ⟨0,_,rfl,z,⟨rfl,by omega,by simp⟩,aE (by kernel_rfl)⟩) ?_
 intro n e h' aL
 rw [aS] at aL
 obtain ⟨i,bH,rfl,z,hinv,J,rfl⟩:=aL
 obtain ⟨rfl,hi,aB⟩:=hinv
 have hw:=eb i (by omega)
 simp only [syms,aa,seval,rJ]
 refine bt (fun aR=>?_) (fun aR=>?_)
 rotate_left
 ·rw [List.take_of_length_le (by omega)] at aB
  have:=JX aB
  rw [this] at hk
  simp only [syms,aa,seval,rJ]
  exact hk _ (z.aw _ _ (by omega))
 obtain ⟨r,hr,bz⟩:=eU (l:=l) (i:=i) (by omega)
 simp only [syms,aa,seval,rJ,bx]
 repeat' ((first|with_reducible_and_instances refine qV (hl.mono z.inc) cY oq (by omega) hr (fun p hp=>?_)|with_reducible_and_instances refine hY hp kc ?_) <;> simp only [syms,aa,seval,rJ,bx,dA])
 refine Aq _ _ _ (z.aw _ _ (by omega)) (fun h' x=>?_)
 (replace z:=z.an x (by omega);rw [ao h'])
 clear hp
 cases hx:pr r
 rotate_left
 ·simp only [syms,aa,seval,rJ]
  have:=JQ bz aB hx
  rw [this] at hk
  exact hk _ (z.aw _ _ (by omega))
 ·simp only [syms,aa,seval,rJ]
  rw [hw]
  (rw [aS];with_reducible refine cB (m:=_) ?_ ⟨i+1,_,rfl,z,⟨rfl,by omega,oC (i:=i) (P:=fun x:ByteArray=>pr x=false) bz aB hx⟩,aE (by kernel_rfl)⟩;omega)
theorem zjI (l:List ByteArray) (v fv:Value) (pr:ByteArray→Bool) (h:Heap) (hl:Sl aJ.str h v l) (hs:l.length≤1000) (Aq:∀ (x:ByteArray) (hc:Heap) (K:Value→Heap→Prop),Ext h hc→(∀ h',Ext hc h'→K (.bool (pr x)) h')→nW Tryz.prog ae ov [.string x] hc K fv) (K:Value→Heap→Prop)
 (hk:∀ h',Ext h h'→K (.bool (l.any pr)) h'):Ok Tryz.prog ae ov 187 [v,fv] h K:=by
 refine Ok.aH rfl zxz (br Lr) rfl (m:=7) rfl ?_
 simp only [syms,aa,seval,Fk]
 refine zos l v fv pr h hl hs Aq _ (fun h' x=>?_)
 simp only [syms,aa,seval,Fk,Xz]
 refine SI (fun hh=>?_) (fun hh=>?_)
 all_goals
  simp only [syms,aa,seval,Fk]
  rw [hh] at hk
  exact hk _ x
theorem ztk (l:List ByteArray) (s:ByteArray) (w:Value) (C:Nat) (h:Heap) (q:Holds h C (.row [w] 22 false)) (hl:Sl aJ.str h w l) (hs:l.length≤1000) (K:Value→Heap→Prop) (hk:∀ h',Ext h h'→K (.bool (!ba l s)) h'):Ok Tryz.prog ae ov 188 [.string s,.pointer (some ⟨C,0,none⟩)] h K:=by
 rw [ao h]
 have z:=Ext.refl h
 have eR:=bY w
 have dA:=fP
 refine Ok.aH rfl zxA (br Ls) rfl (m:=6) rfl ?_
 simp only [syms,aa,seval,Fl,q.lay,eR,dA]
 refine Jx l w s _ (hl.lay _ _) hs _ (fun h' x=>?_)
 (replace z:=z.an x (by omega);rw [ao h'])
 simp only [syms,aa,seval,Fl]
 (with_reducible_and_instances apply b8);(· rfl)
 simp only [syms,aa,seval,Fl]
 exact hk _ (z.aw _ _ (by omega))
open Classical in
theorem ztx {c:bZ} {l m:List ByteArray} (hl:∀ x,x∈l↔jF c.head x) (hm:∀ x,x∈m↔∃ a∈c.body,jF a x):C6 c=bd (l.any fun v => !ba m v) 9:=by
 unfold C6
 congr 1
 rw [Bool.eq_iff_iff,decide_eq_true_iff,List.any_eq_true]
 constructor
 ·rintro ⟨x,h1,h2⟩
  refine ⟨x,(hl x).2 h1,?_⟩
  have:ba m x=false:=Bool.eq_false_iff.2 (fun hh=>by
   obtain ⟨a,ha,hv⟩:=(hm x).1 (cp.1 hh)
   exact h2 a ha hv)
  rw [this];rfl
 ·rintro ⟨x,h1,h2⟩
  refine ⟨x,(hl x).1 h1,fun a ha hv=>?_⟩
  have:ba m x=true:=cp.2 ((hm x).2 ⟨a,ha,hv⟩)
  rw [this] at h2
  simp at h2
theorem ztl (c:bZ) (v:Value) (h:Heap) (hl:Sl aJ.atom h v c.body) (hs:c.body.length≤200) (K:Value→Heap→Prop) (hk:∀ h',Ext h h'→K (.int .i64 (C6 c)) h'):Ok Tryz.prog ae ov 148 [.agg ⟨c.head.cells++[v]⟩] h K:=by
 rw [ao h]
 have z:=Ext.refl h
 have bx:=bY v
 have cz:=fun (hh:Heap)=>hl.bc bL hh
 refine Ok.aH rfl zxa (br K1) rfl (m:=26) rfl ?_
 simp only [syms,aa,seval,jt,UQ,bx,cz]
 refine ml (fun h' x hq=>?_)
 have q0:=hq 0 _ rfl
 have q1:=hq 1 _ rfl
 clear hq
 (replace z:=z.an x (by omega);rw [ao h'])
 obtain ⟨A0,dZ⟩:∃ A0,A0=h.size+0:=⟨_,rfl⟩
 rw [← dZ] at q0
 rw [← dZ]
 obtain ⟨C,hC⟩:∃ C,C=h.size+1:=⟨_,rfl⟩
 rw [← hC] at q1
 rw [← hC]
 obtain ⟨I1,aS⟩:∃ I:Nat→Env→Heap→Prop,I=(fun n e h'=>∃ (i:Nat) (wv:Value) (A:Nat) (mH:List ByteArray) (h1:Heap),h'=h1.lay [] h1.low∧Ext h h1∧(n=c.body.length - i∧i≤c.body.length∧Holds h1 A0 (.row (c.head.cells++[v]) 77 false)∧Holds h1 C (.row [wv] 22 false)∧Ow aJ.str h h1 9 A wv mH∧C < A∧mH.length≤4*i∧(∀ x,x∈mH↔∃ a∈c.body.take i,jF a x))∧∃ J:Nat→Value,e=(J 0::.pointer (some ⟨A0,0,none⟩)::J 2::.pointer (some ⟨C,0,none⟩)::jr J 4 4 (v::.int .i64 c.body.length::.int .i64 i::jr J 11 16 ([])))):=⟨_,rfl⟩
 refine dj I1 _ (by rw [aS];exact ⟨0,.slice none 0 0,C+1,[],_,rfl,z,⟨rfl,by omega,q0,q1,Ow.nil (by omega),by omega,by simp,by simp⟩,aE (by kernel_rfl)⟩) ?_
 intro n e h' aL
 rw [aS] at aL
 obtain ⟨i,wv,A,mH,bH,rfl,z,hinv,J,rfl⟩:=aL
 clear q0 q1
 obtain ⟨rfl,hi,q0,q1,ow,S8,hhl,cd⟩:=hinv
 have hw:=eb i (by omega)
 have eR:=bY wv
 simp only [syms,aa,seval,jt]
 refine bt (fun aR=>?_) (fun aR=>?_)
 ·obtain ⟨r,hr,bz⟩:=eU (l:=c.body) (i:=i) (by omega)
  simp only [syms,aa,seval,jt,bx]
  repeat' ((first|with_reducible_and_instances refine pT (hl.mono z.inc) bL bO (by omega) hr (fun p hp=>?_)|with_reducible_and_instances refine mW hp fx bO ?_) <;> simp only [syms,aa,seval,jt,bx])
  clear hp
  simp only [syms,aa,seval,jt,nT,pA,List.all_cons,List.all_nil,Am.one,Bool.and_true,Bool.true_and,Bool.and_self,List.set_cons_zero,List.set_cons_succ,lW,fV,pt,iA,iB,pF,ec,zoU,zod,zoz,zuQ,Jf,List.append_nil,if_true]
  with_reducible first|refine dH (by simp only [jt]) (z.aw _ _ (by omega)) ?_
  simp only [syms,aa,seval,jt,q1.lay,eR,↓eM,eh,dC]
  refine zrM r _ _ (fun w2 l2 h' x s2 hU jX=>?_)
  (((with_reducible refine dv ?_ ?_ ?_);(· exact (by (simp only [dx]);have:=z.size;omega));(· exact x));replace z:=z.an x (by omega);(replace q0:=q0.over x);(replace q1:=q1.over x);(replace ow:=ow.over x);rw [ao h'])
  have GY:=bY w2
  simp only [syms,aa,seval,jt,GY,lG,zNH]
  have hz:=z.size
  have cV:=ow.fresh
  have YI:=q1.lt
  obtain ⟨news,lS,jY⟩:=tk (A:=A) (r:=aJ.str) (by decide) (s2.lay [] (h'.size+0)) (fun cs y hr=>hr)
  obtain ⟨w3,h3,A3,g1,o3,qd,g4,g5⟩:=zb (t:=22) cY Eo rfl (by decide) (by rw [bm];omega) (ow.mono (cn.lay _ _ _)) lS jY (by omega) (by omega)
  rw [g1]
  have uZ:C < A3:=by
   rcases g4 with e|e
   ·omega
   ·rw [bm] at e;omega
  refine nQ (A:=A) (by kernel_rfl) (by rw [bm];omega) (by omega) (by simpa only [el,bm,List.append_nil,List.length_cons,List.length_nil,Nat.add_zero] using qd) ?_
  replace q0:=q0.bE qd (by omega)
  replace q1:=q1.bE qd (by omega)
  replace z:=(z.aw [] (h'.size+0) (by omega)).step qd (by omega)
  clear ow s2
  rw [ao h3]
  have ajr:Am.one w3=true:=(o3.sl (by decide)).one
  obtain ⟨a3,n3,c3,rfl⟩:=JT (o3.sl (by decide))
  simp only [syms,aa,seval,jt]
  refine zwC q1 ad7 rfl rfl rfl (fun h4 q4 c4=>?_)
  have yA:=z.size
  replace q4:Holds h4 C (.row [.slice a3 n3 c3] 22 false):=q4
  refine nQ (A:=C) (by kernel_rfl) (by rw [bm];omega) (by omega) (by simpa only [el,bm,List.append_nil,List.length_cons,List.length_nil,Nat.add_zero] using c4) ?_
  replace q0:=q0.bE c4 (by omega)
  replace o3:=(o3.mono (cn.lay h3 [] (h3.size+0))).turn (fun _ _ _ _ h=>h) c4 (by omega) q4
  replace z:=(z.aw [] (h3.size+0) (by omega)).step c4 (by omega)
  clear q1
  rw [ao h4]
  simp only [syms,aa,seval,jt]
  ((with_reducible refine ⟨z.cN.lay _ _,?_⟩);(intro _ h' zz x _);(simp only [el,List.append_nil] at x);(replace q0:=q0.over x);(replace q4:=q4.over x);(replace o3:=o3.over x);(replace z:=zz);(clear zz);rw [ao h'])
  simp only [syms,aa,seval,jt]
  rw [hw]
  have kS:c.body.take (i+1)=c.body.take i++[r]:=by rw [List.take_add_one,bz];rfl
  (rw [aS];with_reducible refine cB (m:=_) ?_ ⟨i+1,.slice a3 n3 c3,A3,mH++l2,_,rfl,z,⟨rfl,by omega,q0,q4,o3,uZ,by rw [List.length_append];omega,fun x=>by rw [List.mem_append,cd,jX,kS];simp [or_and_right,exists_or]⟩,aE (by kernel_rfl)⟩;omega)
 ·rw [List.take_of_length_le (by omega)] at cd
  simp only [syms,aa,seval,jt,q0.lay,↓Jk,eh,dC]
  have sh:=ow.sl (by decide)
  clear ow
  refine zrM c.head _ _ (fun w2 l2 h' x s2 hU jX=>?_)
  (replace z:=z.an x (by omega);(replace q1:=q1.over x);(replace sh:=sh.over x);rw [ao h'])
  have GY:=bY w2
  simp only [syms,aa,seval,jt,GY]
  refine zjI l2 w2 _ (fun v => !ba mH v) _ (s2.lay _ _) (by omega) (fun y hc K' xe hK=>by
   rw [uC]
   exact ztk mH y wv C hc ((q1.on _ _).ext xe) ((sh.lay _ _).mono xe.inc) (by omega) K' hK) _ (fun h' x=>?_)
  (replace z:=z.an x (by omega);(replace q1:=q1.over x);(replace sh:=sh.over x);rw [ao h'])
  simp only [syms,aa,seval,jt]
  refine nu _ _ _ _ (fun h' f1 x r1=>?_)
  (replace z:=z.an x (by omega);(replace q1:=q1.over x);(replace sh:=sh.over x);rw [ao h'])
  obtain ⟨k1,u1,v1,rfl⟩:=r1.1
  simp only [syms,aa,seval,jt]
  refine r1.2 _ _ (aM.lay _ _ _ _) (fun h' x=>?_)
  (replace z:=z.an x (by omega);(replace q1:=q1.over x);(replace sh:=sh.over x);rw [ao h'])
  rw [ztx jX cd] at hk
  simp only [syms,aa,seval,jt]
  exact hk _ (z.aw _ _ (by omega))
theorem zH3 (a:ab) (v:Value):(a.cells++[v])[0]? = some (.string a.says):=rfl
theorem zH4 (a:ab) (v:Value):(Value.agg ⟨a.cells++[v]⟩).cells.toList=a.cells++[v]:=rfl
theorem zNE (a:ab) (v:Value):(Value.agg ⟨a.cells++[v]⟩).cells.size=12:=rfl
theorem Pp (a:ab) (v:Value):(a.cells++[v]).length=12:=rfl
theorem Pq (a:ab) (x:Option Addr) (n c:Nat):(a.cells++[Value.slice x n c]).all Am.one=true:=rfl
theorem Jl (z0 z1 z2 z3 z4 z5 z6 z7 z8 z9 xP Q9:Value):List.drop 12 [z0,z1,z2,z3,z4,z5,z6,z7,z8,z9,xP,Q9]=[]:=rfl
theorem adT:decide (12≤12)=true:=rfl
theorem zH6 (a:ab) (v:Value):cut (a.cells++[v]) 0 12=some (a.cells++[v]):=rfl
theorem zIe (h:Heap) (l:List bh) (w i o:Nat) (v:Value) (hi:i < l.length):ic ae 77 (.pointer (some ⟨h.size+i,o,none⟩)) v (h.lay l w)=if v.cells.size=12 then rz l[i]? i o v.cells.toList h l w else none:=uO px h l w i o v hi
theorem zHN (s:ByteArray) (a:ab) (v:Value):(Value.agg ⟨.string s::(a.cells++[v])⟩).cells.toList=.string s::(a.cells++[v]):=rfl
theorem zNq (s:ByteArray) (a:ab) (v:Value):(Value.agg ⟨.string s::(a.cells++[v])⟩).cells.size=13:=rfl
theorem zHO (s:ByteArray) (a:ab) (x:Option Addr) (n c:Nat):(Value.string s::(a.cells++[Value.slice x n c])).all Am.one=true:=rfl
theorem zNp (z0 z1 z2 z3 z4 z5 z6 z7 z8 z9 xP Q9 z12:Value):List.drop 13 [z0,z1,z2,z3,z4,z5,z6,z7,z8,z9,xP,Q9,z12]=[]:=rfl
theorem abm:decide (13≤13)=true:=rfl
theorem abn (s:ByteArray) (a:ab) (v:Value):(Value.string s::(a.cells++[v])).length=13:=rfl
theorem CO (s:ByteArray) (a:ab) (v:Value):(Value.string s::(a.cells++[v]))[0]? = some (.string s):=rfl
theorem CP (s:ByteArray) (a:ab) (v:Value):(Value.string s::(a.cells++[v]))[1]? = some (.string a.says):=rfl
theorem zGb (s:ByteArray) (a:ab) (v:Value):(Value.string s::(a.cells++[v]))[12]? = some v:=rfl
theorem abl (s:ByteArray) (a:ab) (v:Value):cut (Value.string s::(a.cells++[v])) 1 11=some a.cells:=rfl
theorem zIc (h:Heap) (l:List bh) (w i o:Nat) (v:Value) (hi:i < l.length):ic ae 80 (.pointer (some ⟨h.size+i,o,none⟩)) v (h.lay l w)=if v.cells.size=13 then rz l[i]? i o v.cells.toList h l w else none:=uO nP h l w i o v hi
theorem zv3 (d:au) (c:bZ) (v:Value) (p0 p1 p2 p5 p6:Value) (q b:Int) (A B:Nat) (h:Heap) (cF:bj 1 h) (bf:(cX p0 p1 p2 p5 p6 q b).all Am.one=true) (h0:Sl aJ.str h p0 d.ah) (h1:Sl aJ.pred h p1 d.bG) (hs:d.ah.length≤1000) (hl:Sl aJ.atom h v c.body) (jc:c.body.length≤1000) (q0:Holds h A (.row (cX p0 p1 p2 p5 p6 q b) 28 false)) (q1:Holds h B (.row (c.head.cells++[v]) 77 false)) (K:Value→Heap→Prop) (hk:∀ h',Ext h h'→K (.int .i64 (kV d c.head c.body)) h'):Ok Tryz.prog ae ov 145 [.pointer (some ⟨A,0,none⟩),.pointer (some ⟨B,0,none⟩)] h K:=by
 rw [ao h]
 have z:=Ext.refl h
 have bx:=bY v
 refine Ok.aH rfl zw7 (br KY) rfl (m:=7) rfl ?_
 simp only [syms,aa,seval,Mn,q0.lay,q1.lay,ek,↓fm,eX,eG,↓Jk,UQ,eh,dC,bx]
 refine zll d c.head c.body v _ _ _ _ _ _ _ _ (cF.lay _ _) bf (h0.lay _ _) (h1.lay _ _) hs (hl.lay _ _) jc _ (fun h' x=>?_)
 (replace z:=z.an x (by omega);rw [ao h'])
 simp only [syms,aa,seval,Mn]
 exact hk _ (z.aw _ _ (by omega))
theorem zv4 (c:bZ) (v:Value) (B:Nat) (h:Heap) (hl:Sl aJ.atom h v c.body) (jc:c.body.length≤200) (q1:Holds h B (.row (c.head.cells++[v]) 77 false)) (K:Value→Heap→Prop) (hk:∀ h',Ext h h'→K (.int .i64 (C6 c)) h'):Ok Tryz.prog ae ov 147 [.pointer (some ⟨B,0,none⟩)] h K:=by
 rw [ao h]
 have z:=Ext.refl h
 have ph:∀ (h:Heap) (K:Value→Heap→Prop),aW (some (.agg (c.head.cells++[v]).toArray)) h K=K (.agg ⟨c.head.cells++[v]⟩) h:=fun _ _=>rfl
 refine Ok.aH rfl zw9 (br K0) rfl (m:=3) rfl ?_
 simp only [syms,aa,seval,Mo,q1.lay,↓zH6,ph]
 refine ztl c v _ (hl.lay _ _) jc _ (fun h' x=>?_)
 (replace z:=z.an x (by omega);rw [ao h'])
 simp only [syms,aa,seval,Mo]
 exact hk _ (z.aw _ _ (by omega))
theorem zv5 (d:au) (g:dV) (v:Value) (p0 p1 p2 p5 p6:Value) (q b:Int) (A B:Nat) (h:Heap) (cF:bj 1 h) (bf:(cX p0 p1 p2 p5 p6 q b).all Am.one=true) (h0:Sl aJ.str h p0 d.ah) (h1:Sl aJ.pred h p1 d.bG) (hs:d.ah.length≤1000) (hl:Sl aJ.atom h v g.body) (jc:g.body.length≤1000) (q0:Holds h A (.row (cX p0 p1 p2 p5 p6 q b) 28 false)) (q1:Holds h B (.row (.string g.to::(g.head.cells++[v])) 80 false)) (K:Value→Heap→Prop) (hk:∀ h',Ext h h'→K (.int .i64 (kV d g.head g.body)) h'):Ok Tryz.prog ae ov 149 [.pointer (some ⟨A,0,none⟩),.pointer (some ⟨B,0,none⟩)] h K:=by
 rw [ao h]
 have z:=Ext.refl h
 have bx:=bY v
 refine Ok.aH rfl zxb (br K3) rfl (m:=7) rfl ?_
 simp only [syms,aa,seval,Mp,q0.lay,q1.lay,ek,↓fm,eX,eG,↓abl,zGb,UQ,eh,dC,bx]
 refine zll d g.head g.body v _ _ _ _ _ _ _ _ (cF.lay _ _) bf (h0.lay _ _) (h1.lay _ _) hs (hl.lay _ _) jc _ (fun h' x=>?_)
 (replace z:=z.an x (by omega);rw [ao h'])
 simp only [syms,aa,seval,Mp]
 exact hk _ (z.aw _ _ (by omega))
theorem ztB (d:au):EK d=if eO (fun _ c=>so d c) [] d.rules=0 then eO (fun _ g=>ry d g) [] d.bo else eO (fun _ c=>so d c) [] d.rules:=by
 unfold EK
 rw [fQ,fQ,zsJ]
 split
 ·split
  ·rename_i h;exact h.symm
  ·rfl
 ·rfl
theorem zv6 (d:au) (p0 p1 p2 p5 p6:Value) (q b:Int) (h:Heap) (cF:bj 1 h) (bf:(cX p0 p1 p2 p5 p6 q b).all Am.one=true) (h0:Sl aJ.str h p0 d.ah) (h1:Sl aJ.pred h p1 d.bG) (hs:d.ah.length≤1000) (h5:Sl aJ.clause h p5 d.rules) (D0:d.rules.length≤1000) (hb5:∀ r∈d.rules,r.body.length≤200) (h6:Sl aJ.qg h p6 d.bo) (hs6:d.bo.length≤1000) (Bg:∀ g∈d.bo,g.body.length≤200) (K:Value→Heap→Prop) (hk:∀ h',Ext h h'→K (.int .i64 (EK d)) h'):Ok Tryz.prog ae ov 95 [gi p0 p1 p2 p5 p6 q b] h K:=by
 rw [ao h]
 have z:=Ext.refl h
 have ji:=bY p5
 have kG:=bY p6
 have dA:=fP
 have mO:=fun (hh:Heap)=>h5.bc my hh
 have lQ:=fun (hh:Heap)=>h6.bc nE hh
 rw [ztB] at hk
 obtain ⟨F,hF⟩:∃ F:List bZ→bZ→Int,F=fun _ c=>so d c:=⟨_,rfl⟩
 obtain ⟨E,hE⟩:∃ E:List dV→dV→Int,E=fun _ g=>ry d g:=⟨_,rfl⟩
 rw [← hF,← hE] at hk
 refine Ok.aH rfl zD5 (br Wd) rfl (m:=50) rfl ?_
 simp only [syms,aa,seval,lA,ek,gB,ji,mO]
 refine ml (fun h' x hq=>?_)
 have q0:=hq 0 _ rfl
 clear hq
 (replace z:=z.an x (by omega);rw [ao h'])
 obtain ⟨A0,dZ⟩:∃ A0,A0=h.size+0:=⟨_,rfl⟩
 rw [← dZ] at q0
 rw [← dZ]
 obtain ⟨I1,aS⟩:∃ I:Nat→Env→Heap→Prop,I=(fun n e h'=>∃ (i:Nat) (h1:Heap),h'=h1.lay [] h1.low∧Ext h h1∧(n=d.rules.length - i∧i≤d.rules.length∧Holds h1 A0 (.row (cX p0 p1 p2 p5 p6 q b) 28 false)∧eO F [] d.rules=eO F (d.rules.take i) (d.rules.drop i))∧∃ J:Nat→Value,e=(J 0::.pointer (some ⟨A0,0,none⟩)::jr J 2 8 (p5::.int .i64 d.rules.length::.int .i64 i::jr J 13 38 ([])))):=⟨_,rfl⟩
 refine dj I1 _ (by rw [aS];exact ⟨0,_,rfl,z,⟨rfl,by omega,q0,rfl⟩,aE (by kernel_rfl)⟩) ?_
 intro n e h' aL
 rw [aS] at aL
 obtain ⟨i,bH,rfl,z,hinv,J,rfl⟩:=aL
 clear q0
 obtain ⟨rfl,hi,q0,dK⟩:=hinv
 have hw:=eb i (by omega)
 simp only [syms,aa,seval,lA]
 refine bt (fun aR=>?_) (fun aR=>?_)
 ·obtain ⟨r,hr,bz⟩:=eU (l:=d.rules) (i:=i) (by omega)
  rw [dK,rk bz] at hk
  have pH:F (d.rules.take i) r=gW [kV d r.head r.body,C6 r]:=by rw [hF];rfl
  have X9:=hb5 r (List.mem_of_getElem? bz)
  simp only [syms,aa,seval,lA,ji]
  refine Si (h5.mono z.inc) my px (by omega) hr (fun p v hv hp=>?_)
  obtain ⟨av,nv,cv,rfl⟩:=JT hv
  repeat' (first|simp only [syms,aa,seval,lA]|with_reducible_and_instances refine ldc hp Fa px ?_)
  clear hp
  simp only [syms,aa,seval,lA,nT,pA,List.all_cons,List.all_nil,Am.one,Bool.and_true,Bool.true_and,Bool.and_self,List.set_cons_zero,List.set_cons_succ,lW,fV,pt,iA,iB,pF,zIe,zH4,zNE,Pp,Pq,Jl,adT,List.append_nil,if_true]
  have zU:∀ (bs:List bh) (w:Nat) (i:Nat) (b:bh),bs[i]? = some b→Holds (bH.lay bs w) (bH.size+i) b:=fun bs w i b hb=>⟨by rw [bm];have:=(List.getElem?_eq_some_iff.1 hb).1;omega,by rw [iR];exact hb⟩
  refine y4 [.func (.func 145) ⟨[]⟩ ⟨[.pointer (some ⟨A0,0,none⟩),.pointer (some ⟨bH.size+0,0,none⟩)]⟩,.func (.func 147) ⟨[]⟩ ⟨[.pointer (some ⟨bH.size+0,0,none⟩)]⟩] [kV d r.head r.body,C6 r] _ _ (zf (i:=1) rfl rfl rfl (by simp)) (by simp) rfl (fun i fv e g1 g2=>?_) _ (fun h' x=>?_)
  ·match i,g1,g2 with
   |0,g1,g2 =>
    cases g1;cases g2
    exact ⟨⟨_,_,_,rfl⟩,fun hc K2 y gz=>by
     rw [uC]
     exact zv3 d r _ _ _ _ _ _ _ _ A0 _ hc (Holds.dq ((cF.ext z).lay _ _) y) bf (((h0.mono z.inc).lay _ _).mono y.all) (((h1.mono z.inc).lay _ _).mono y.all) hs ((hv.lay _ _).mono y.all) (by omega) (Holds.dq (q0.on _ _) y) (Holds.dq (zU _ _ 0 _ rfl) y) K2 gz⟩
   |1,g1,g2 =>
    cases g1;cases g2
    exact ⟨⟨_,_,_,rfl⟩,fun hc K2 y gz=>by
     rw [uC]
     exact zv4 r _ _ hc ((hv.lay _ _).mono y.all) X9 (Holds.dq (zU _ _ 0 _ rfl) y) K2 gz⟩
  (replace z:=z.an x (by omega);(replace q0:=q0.over x);rw [ao h'])
  rw [← pH]
  clear zU
  simp only [syms,aa,seval,lA]
  refine iS (fun aP=>?_) (fun heq=>?_)
  ·rw [if_neg aP,if_neg aP] at hk
   simp only [syms,aa,seval,lA]
   exact hk _ (z.aw _ _ (by omega))
  rw [if_pos heq] at hk
  simp only [syms,aa,seval,lA]
  rw [hw]
  (rw [aS];with_reducible refine cB (m:=_) ?_ ⟨i+1,_,rfl,z,⟨rfl,by omega,q0,by rw [dK,rk bz,if_pos heq]⟩,aE (by kernel_rfl)⟩;omega)
 rw [dK,El (by omega),if_pos rfl] at hk
 clear dK hw hi aR
 simp only [syms,aa,seval,lA,q0.lay,ek,gN,kG,lQ]
 obtain ⟨I2,fM⟩:∃ I:Nat→Env→Heap→Prop,I=(fun n e h'=>∃ (i:Nat) (h1:Heap),h'=h1.lay [] h1.low∧Ext h h1∧(n=d.bo.length - i∧i≤d.bo.length∧Holds h1 A0 (.row (cX p0 p1 p2 p5 p6 q b) 28 false)∧eO E [] d.bo=eO E (d.bo.take i) (d.bo.drop i))∧∃ J:Nat→Value,e=(J 0::.pointer (some ⟨A0,0,none⟩)::jr J 2 23 (p6::.int .i64 d.bo.length::.int .i64 i::jr J 28 23 ([])))):=⟨_,rfl⟩
 refine dj I2 _ (by rw [fM];exact ⟨0,_,rfl,z,⟨rfl,by omega,q0,rfl⟩,aE (by kernel_rfl)⟩) ?_
 intro n e h' aL
 rw [fM] at aL
 obtain ⟨i,bH,rfl,z,hinv,J,rfl⟩:=aL
 clear q0
 obtain ⟨rfl,hi,q0,dK⟩:=hinv
 have hw:=eb i (by omega)
 simp only [syms,aa,seval,lA]
 refine bt (fun aR=>?_) (fun aR=>?_)
 ·obtain ⟨r,hr,bz⟩:=eU (l:=d.bo) (i:=i) (by omega)
  rw [dK,rk bz] at hk
  have pH:E (d.bo.take i) r=gW [bd (!ba d.ah r.to) 6,bd (decide (r.to=r.head.says)) 11,kV d r.head r.body]:=by rw [hE];rfl
  have X9:=Bg r (List.mem_of_getElem? bz)
  simp only [syms,aa,seval,lA,kG]
  refine XO (h6.mono z.inc) nE nP (by omega) hr (fun p v hv hp=>?_)
  obtain ⟨av,nv,cv,rfl⟩:=JT hv
  repeat' (first|simp only [syms,aa,seval,lA]|with_reducible_and_instances refine YV hp zq nP ?_)
  clear hp
  simp only [syms,aa,seval,lA,nT,pA,List.all_cons,List.all_nil,Am.one,Bool.and_true,Bool.true_and,Bool.and_self,List.set_cons_zero,List.set_cons_succ,lW,fV,pt,iA,iB,pF,zIc,zHN,zNq,abn,zHO,zNp,abm,Pp,Pq,Jl,List.append_nil,if_true]
  refine ml (fun h' x hq=>?_)
  have e0:=hq 0 _ rfl
  clear hq
  (replace z:=z.an x (by omega);(replace q0:=q0.over x);(replace hv:=hv.over x);rw [ao h'])
  obtain ⟨E0,nI⟩:∃ E0,E0=bH.size+0:=⟨_,rfl⟩
  rw [← nI] at e0
  rw [← nI]
  with_reducible first|refine dH (by simp only [lA]) (z.aw _ _ (by omega)) ?_
  simp only [syms,aa,seval,lA,q0.lay,e0.lay,CO,CP,dA,ek,↓fm,eX,eG]
  refine Ra d.ah r.to _ _ _ _ _ _ _ _ ((h0.mono z.inc).lay _ _) hs _ (fun h' x=>?_)
  (((with_reducible refine dv ?_ ?_ ?_);(· exact (by (simp only [dx]);have:=z.size;omega));(· exact x));replace z:=z.an x (by omega);(replace q0:=q0.over x);(replace e0:=e0.over x);(replace hv:=hv.over x);rw [ao h'])
  simp only [syms,aa,seval,lA]
  (with_reducible_and_instances apply b8);(· rfl)
  simp only [syms,aa,seval,lA]
  refine nu _ _ _ _ (fun h' f1 x r1=>?_)
  (((with_reducible refine dv ?_ ?_ ?_);(· exact (by (simp only [dx]);have:=z.size;omega));(· exact x));replace z:=z.an x (by omega);(replace q0:=q0.over x);(replace e0:=e0.over x);(replace hv:=hv.over x);rw [ao h'])
  simp only [syms,aa,seval,lA,e0.lay,CO,CP,zH3,EA,dA]
  rw [yY]
  simp only [syms,aa,seval,lA]
  refine nu _ _ _ _ (fun h' f2 x r2=>?_)
  (((with_reducible refine dv ?_ ?_ ?_);(· exact (by (simp only [dx]);have:=z.size;omega));(· exact x));replace z:=z.an x (by omega);(replace q0:=q0.over x);(replace e0:=e0.over x);(replace hv:=hv.over x);(replace r1:=r1.over x);rw [ao h'])
  have r3:fh h' (.func (.func 149) ⟨[]⟩ ⟨[.pointer (some ⟨A0,0,none⟩),.pointer (some ⟨E0,0,none⟩)]⟩) (kV d r.head r.body):=⟨⟨_,_,_,rfl⟩,fun hc K2 y gz=>by
   rw [uC]
   exact zv5 d r _ _ _ _ _ _ _ _ A0 E0 hc (Holds.dq (cF.ext z) y) bf ((h0.mono z.inc).mono y.all) ((h1.mono z.inc).mono y.all) hs (hv.mono y.all) (by omega) (Holds.dq q0 y) (Holds.dq e0 y) K2 gz⟩
  obtain ⟨k1,u1,v1,rfl⟩:=r1.1
  obtain ⟨k2,u2,v2,rfl⟩:=r2.1
  simp only [syms,aa,seval,lA]
  refine xQ (by have:=z.size;omega) (by omega) ?_
  simp only [syms,aa,seval,lA]
  refine y4 [.func k1 u1 v1,.func k2 u2 v2,.func (.func 149) ⟨[]⟩ ⟨[.pointer (some ⟨A0,0,none⟩),.pointer (some ⟨E0,0,none⟩)]⟩] [bd (!ba d.ah r.to) 6,bd (decide (r.to=r.head.says)) 11,kV d r.head r.body] _ _ (zf (i:=0) rfl rfl rfl (by simp)) (by simp) rfl (fun i fv e g1 g2=>?_) _ (fun h' x=>?_)
  ·match i,g1,g2 with
   |0,g1,g2=>cases g1;cases g2;exact r1.lay _ _
   |1,g1,g2=>cases g1;cases g2;exact r2.lay _ _
   |2,g1,g2=>cases g1;cases g2;exact r3.lay _ _
  (((with_reducible refine dv ?_ ?_ ?_);(· exact (by (simp only [dx]);have:=z.size;omega));(· exact x));replace z:=z.an x (by omega);(replace q0:=q0.over x);(replace e0:=e0.over x);(replace hv:=hv.over x);(replace r1:=r1.over x);(replace r2:=r2.over x);rw [ao h'])
  rw [← pH]
  clear r1 r2 r3
  simp only [syms,aa,seval,lA]
  ((with_reducible refine ⟨z.cN.lay _ _,?_⟩);(intro _ h' zz x _);(simp only [el,List.append_nil] at x);(replace q0:=q0.over x);(replace z:=zz);(clear zz);rw [ao h'])
  simp only [syms,aa,seval,lA]
  refine iS (fun aP=>?_) (fun heq=>?_)
  ·rw [if_neg aP] at hk
   simp only [syms,aa,seval,lA]
   exact hk _ (z.aw _ _ (by omega))
  rw [if_pos heq] at hk
  simp only [syms,aa,seval,lA]
  rw [hw]
  (rw [fM];with_reducible refine cB (m:=_) ?_ ⟨i+1,_,rfl,z,⟨rfl,by omega,q0,by rw [dK,rk bz,if_pos heq]⟩,aE (by kernel_rfl)⟩;omega)
 ·rw [dK,El (by omega)] at hk
  simp only [syms,aa,seval,lA]
  exact hk _ (z.aw _ _ (by omega))
structure zn (d:au):Prop where
 p:d.ah.length≤1000
 c:d.aF.length≤1000
 r:d.rules.length≤1000
 rb:∀ r∈d.rules,r.body.length≤200
 g:d.bo.length≤1000
 gb:∀ g∈d.bo,g.body.length≤200
theorem zvH (d:au) (p0 p1 p2 p5 p6:Value) (q b:Int) (h:Heap) (cF:bj 1 h) (bf:(cX p0 p1 p2 p5 p6 q b).all Am.one=true) (hd:dD h p0 p1 p2 p5 p6 d) (hq:d.dB=q) (hb:d.cG=b) (hn:zn d) (K:Value→Heap→Prop) (hk:∀ h',Ext h h'→K (.int .i64 (lY d)) h'):Ok Tryz.prog ae ov 55 [gi p0 p1 p2 p5 p6 q b] h K:=by
 rw [ao h]
 have z:=Ext.refl h
 obtain ⟨es,zZ⟩:∃ es,es=[qW d.ah,tj d.bG,td d.ah d.aF,CJ d,EK d]:=⟨_,rfl⟩
 obtain ⟨qY,Tg⟩:∃ qY:List Value,qY=[.func (.func 91) ⟨[]⟩ ⟨[]⟩,.func (.func 92) ⟨[]⟩ ⟨[]⟩,.func (.func 93) ⟨[]⟩ ⟨[]⟩,.func (.func 94) ⟨[]⟩ ⟨[]⟩,.func (.func 95) ⟨[]⟩ ⟨[]⟩]:=⟨_,rfl⟩
 have DD:lY d=gW es:=by rw [zZ];rfl
 rw [DD] at hk
 have dX:∀ (i:Nat) fv e,qY[i]? = some fv→es[i]? = some e→∀ hc (K:Value→Heap→Prop),Ext h hc→(∀ h',Ext hc h'→K (.int .i64 e) h')→nW Tryz.prog ae ov [gi p0 p1 p2 p5 p6 q b] hc K fv:=by
  intro i fv e h1 h2 hc K2 y gz
  rw [Tg] at h1
  rw [zZ] at h2
  have fj:=hd.mono y.inc
  match i,h1,h2 with
  |0,h1,h2=>cases h1;cases h2;rw [rj];exact zv0 d.ah _ _ _ _ _ _ _ hc (cF.ext y) fj.s0 K2 gz
  |1,h1,h2=>cases h1;cases h2;rw [rj];exact zvZ d.bG _ _ _ _ _ _ _ hc (cF.ext y) fj.s1 K2 gz
  |2,h1,h2=>cases h1;cases h2;rw [rj];exact zs7 d _ _ _ _ _ _ _ hc bf fj.s0 fj.s2 hn.p hn.c K2 gz
  |3,h1,h2=>cases h1;cases h2;rw [rj];exact zqy d _ _ _ _ _ _ _ hc hq hb fj.s5 fj.s6 hn.r hn.g K2 gz
  |4,h1,h2=>cases h1;cases h2;rw [rj];exact zv6 d _ _ _ _ _ _ _ hc (cF.ext y) bf fj.s0 fj.s1 hn.p fj.s5 hn.r hn.rb fj.s6 hn.g hn.gb K2 gz
 have sJ:qY.length=5:=by rw [Tg];rfl
 have vh:es.length=5:=by rw [zZ];rfl
 refine Ok.aH rfl zDE (br VJ) rfl (m:=20) rfl ?_
 simp only [syms,aa,seval,zF,ek]
 refine ml (fun h' x hq=>?_)
 have q0:=hq 0 _ rfl
 have q1:=hq 1 _ rfl
 clear hq
 (replace z:=z.an x (by omega);rw [ao h'])
 obtain ⟨A0,dZ⟩:∃ A0,A0=h.size+0:=⟨_,rfl⟩
 rw [← dZ] at q0
 rw [← dZ]
 obtain ⟨A1,nH⟩:∃ A1,A1=h.size+1:=⟨_,rfl⟩
 rw [← nH] at q1
 rw [← nH]
 have sf:Sl aJ.MU h' (.slice (some ⟨A1,0,none⟩) 5 5) qY:=by
  refine .inr ⟨A1,0,5,_,_,_,by rw [sJ],by rw [sJ];unfold maxLen;omega,.inl ⟨by unfold G;omega,by omega⟩,q1.lt,q1.get,fun j x hx=>⟨[x],?_,rfl,?_⟩⟩
  ·rw [Tg] at hx
   match j,hx with
   |0,hx=>cases hx;rfl
   |1,hx=>cases hx;rfl
   |2,hx=>cases hx;rfl
   |3,hx=>cases hx;rfl
   |4,hx=>cases hx;rfl
  ·rw [Tg] at hx
   match j,hx with
   |0,hx=>cases hx;rfl
   |1,hx=>cases hx;rfl
   |2,hx=>cases hx;rfl
   |3,hx=>cases hx;rfl
   |4,hx=>cases hx;rfl
 clear q1
 obtain ⟨sv,D5⟩:∃ sv,sv=Value.slice (some ⟨A1,0,none⟩) 5 5:=⟨_,rfl⟩
 rw [← D5] at sf ⊢
 obtain ⟨I1,aS⟩:∃ I:Nat→Env→Heap→Prop,I=(fun n e h'=>∃ (i:Nat) (h1:Heap),h'=h1.lay [] h1.low∧Ext h h1∧(n=5 - i∧i≤5∧Holds h1 A0 (.row (cX p0 p1 p2 p5 p6 q b) 28 false)∧Sl aJ.MU h1 sv qY∧(∀ x∈es.take i,x=0))∧∃ J:Nat→Value,e=(J 0::.pointer (some ⟨A0,0,none⟩)::jr J 2 6 (sv::.int .i64 5::.int .i64 i::jr J 11 10 ([])))):=⟨_,rfl⟩
 refine dj I1 _ (by rw [aS];exact ⟨0,_,rfl,z,⟨rfl,by omega,q0,sf,by simp⟩,aE (by kernel_rfl)⟩) ?_
 intro n e h' aL
 rw [aS] at aL
 obtain ⟨i,bH,rfl,z,hinv,J,rfl⟩:=aL
 clear q0 sf
 obtain ⟨rfl,hi,q0,sf,aB⟩:=hinv
 have hw:=eb i (by omega)
 simp only [syms,aa,seval,zF]
 refine bt (fun aR=>?_) (fun aR=>?_)
 rotate_left
 ·rw [List.take_of_length_le (by omega)] at aB
  rw [bU.2 aB] at hk
  simp only [syms,aa,seval,zF]
  exact hk _ (z.aw _ _ (by omega))
 obtain ⟨fv,hf,Bn⟩:=eU (l:=qY) (i:=i) (by omega)
 obtain ⟨e,he,sI⟩:=eU (l:=es) (i:=i) (by omega)
 have jd:=bY fv
 simp only [syms,aa,seval,zF]
 repeat' ((first|with_reducible_and_instances refine zvo sf XQ zNP (by omega) hf (fun p hp=>?_)|with_reducible_and_instances refine hY hp C4 ?_) <;> simp only [syms,aa,seval,zF,jd])
 simp only [syms,aa,seval,zF,q0.lay,ek,↓fm,eX,eG]
 refine dX i fv e Bn sI _ _ (z.aw _ _ (by omega)) (fun h' x=>?_)
 (replace z:=z.an x (by omega);(replace q0:=q0.over x);(replace sf:=sf.over x);rw [ao h'])
 simp only [syms,aa,seval,zF]
 refine iS (fun aP=>?_) (fun heq=>?_)
 ·rw [znY aB sI aP] at hk
  simp only [syms,aa,seval,zF]
  exact hk _ (z.aw _ _ (by omega))
 ·simp only [syms,aa,seval,zF]
  rw [hw]
  (rw [aS];with_reducible refine cB (m:=_) ?_ ⟨i+1,_,rfl,z,⟨rfl,by omega,q0,sf,oC (i:=i) (P:=fun x:Int=>x=0) sI aB heq⟩,aE (by kernel_rfl)⟩;omega)
end Go.Proofs.YtkgojconmeeegaaGreatDoor
