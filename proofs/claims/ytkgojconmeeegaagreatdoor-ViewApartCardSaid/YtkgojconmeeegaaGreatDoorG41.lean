/- The code of some functions, node by node, for simp. Written by a program (mkcode.py). No condition. -/
import Derived.Test.YtkgojconmeeegaaGreatDoorG40
set_option linter.unusedSimpArgs false
set_option linter.unusedVariables false
set_option maxRecDepth 100000
set_option maxHeartbeats 0
namespace Go.Proofs.YtkgojconmeeegaaGreatDoor
open Go.Am
noncomputable def Wh:=bA Tryz.f99
noncomputable def yR:=PLift.up (by have c:=bB Wh Tryz.f99;simp only [aK,Tryz.f99,seval] at c;exact nd c <| nd @HV <| nd @j5 <| nd @lV <| nd @gn <| nd @j7 <| @abf)
theorem zK:type_of% yR.down:=yR.down
noncomputable def K6:=bA Tryz.f152
noncomputable def Qf:=PLift.up (by have c:=bB K6 Tryz.f152;simp only [aK,Tryz.f152,seval] at c;exact nd c <| nd @Kf <| nd @HY <| nd @Sr <| nd @xy <| nd @uz <| nd @mi <| nd @gn <| nd @xC <| @zMp)
theorem zy:type_of% Qf.down:=Qf.down
noncomputable def Kz:=bA Tryz.f100
noncomputable def Py:=PLift.up (by have c:=bB Kz Tryz.f100;simp only [aK,Tryz.f100,seval] at c;exact nd c <| nd @Fe <| nd @Kf <| nd @HY <| nd @Sr <| nd @xy <| nd @uz <| nd @mi <| nd @Ha <| nd @gn <| nd @xC <| @zLQ)
theorem nA:type_of% Py.down:=Py.down
noncomputable def K7:=bA Tryz.f153
noncomputable def Qg:=PLift.up (by have c:=bB K7 Tryz.f153;simp only [aK,Tryz.f153,seval] at c;exact nd c <| nd @Db <| nd @Kh <| nd @j5 <| nd @lV <| nd @dW <| nd @gn <| nd @j7 <| @zMq)
theorem nB:type_of% Qg.down:=Qg.down
noncomputable def KA:=bA Tryz.f101
noncomputable def Pz:=PLift.up (by have c:=bB KA Tryz.f101;simp only [aK,Tryz.f101,seval] at c;exact nd c <| nd @XJ <| nd @Db <| nd @xz <| nd @AH <| nd @dW <| nd @AM <| nd @gn <| nd @AN <| @zLR)
theorem js:type_of% Pz.down:=Pz.down
noncomputable def KD:=bA Tryz.f104
noncomputable def PC:=PLift.up (by have c:=bB KD Tryz.f104;simp only [aK,Tryz.f104,seval] at c;exact nd c <| nd @vI <| nd @HX <| nd @EC <| nd @dW <| nd @mi <| nd @ct <| nd @gn <| @zLU)
theorem pZ:type_of% PC.down:=PC.down
noncomputable def KB:=bA Tryz.f102
noncomputable def PA:=PLift.up (by have c:=bB KB Tryz.f102;simp only [aK,Tryz.f102,seval] at c;exact nd c <| nd @j6 <| nd @dW <| nd @ct <| nd @iu <| @zLS)
theorem kq:type_of% PA.down:=PA.down
noncomputable def KC:=bA Tryz.f103
noncomputable def PB:=PLift.up (by have c:=bB KC Tryz.f103;simp only [aK,Tryz.f103,seval] at c;exact nd c <| nd @EC <| nd @Da <| nd @j5 <| nd @rY <| nd @j6 <| nd @mi <| nd @qI <| nd @ct <| nd @gn <| nd @j7 <| nd @iu <| @zLT)
theorem jL:type_of% PB.down:=PB.down
noncomputable def VM:=bA Tryz.f58
noncomputable def Z3:=PLift.up (by have c:=bB VM Tryz.f58;simp only [aK,Tryz.f58,seval] at c;exact nd c <| nd @Mh <| nd @Sq <| nd @AG <| nd @XK <| nd @XL <| nd @vI <| nd @HZ <| nd @H2 <| nd @XM <| nd @Ss <| nd @XN <| nd @G7 <| nd @G8 <| nd @AJ <| nd @AK <| nd @dW <| nd @mi <| nd @ct <| nd @mV <| nd @O7 <| nd @gn <| nd @AO <| nd @AP <| @aaM)
theorem jQ:type_of% Z3.down:=Z3.down
theorem zrY {α:Type} {r:aJ α} {h:Heap} {v:Value} {l:List α} (f:Sl r h v l):∃ a n c,v=.slice a n c:=by
 rcases f with ⟨rfl,_⟩|⟨A,o,c,row,u,ro,rfl,_⟩ <;> exact ⟨_,_,_,rfl⟩
theorem zrh (a:Option Addr) (n c:Nat):nV ae 28 [(0,.slice a n c)]=some (gi (.slice a n c) (.slice none 0 0) (.slice none 0 0) (.slice none 0 0) (.slice none 0 0) 0 0):=by kernel_rfl
theorem zyF (a:Option Addr) (n c:Nat):nV ae 28 [(1,.slice a n c)]=some (gi (.slice none 0 0) (.slice a n c) (.slice none 0 0) (.slice none 0 0) (.slice none 0 0) 0 0):=by kernel_rfl
theorem zwE {h:Heap} {v:Value} {l:List ByteArray} (f:Sl aJ.str h v l) (i:Nat) (hi:i≤l.length):∃ a n c,ki ae 22 v none (some (.int .i64 i)) none=some (.slice a n c)∧Sl aJ.str h (.slice a n c) (l.take i):=by
 obtain ⟨u1,g1,g2⟩:=f.sub (a:=0) (b:=i) (by decide) cY oq (.inl ⟨rfl,rfl⟩) (.inr ⟨.i64,rfl⟩) (by omega) hi
 obtain ⟨a,n,c,rfl⟩:=zrY g2
 exact ⟨a,n,c,g1,by simpa using g2⟩
theorem zC5 {h:Heap} {v:Value} {l:List bF} (f:Sl aJ.pred h v l) (i:Nat) (hi:i≤l.length):∃ a n c,ki ae 23 v none (some (.int .i64 i)) none=some (.slice a n c)∧Sl aJ.pred h (.slice a n c) (l.take i):=by
 obtain ⟨u1,g1,g2⟩:=f.sub (a:=0) (b:=i) (by decide) jS lq (.inl ⟨rfl,rfl⟩) (.inr ⟨.i64,rfl⟩) (by omega) hi
 obtain ⟨a,n,c,rfl⟩:=zrY g2
 exact ⟨a,n,c,g1,by simpa using g2⟩
theorem JG (l:List bF) (who:ByteArray) (p0 p1 p2 p5 p6:Value) (q b:Int) (h:Heap) (hl:Sl aJ.pred h p1 l) (K:Value→Heap→Prop) (hk:∀ n b h',Ext h h'→K (.tuple #[.int .i64 n,.bool b]) h'):Ok Tryz.prog ae ov 152 [gi p0 p1 p2 p5 p6 q b,.string who] h K:=by
 rw [ao h]
 have z:=Ext.refl h
 have hle:=hl.le
 have bx:=bY p1
 have cz:=fun (hh:Heap)=>hl.bc jS hh
 refine Ok.aH rfl zxe (br K6) rfl (m:=26) rfl ?_
 repeat' (simp only [syms,aa,seval,zy,ek,eK,bx,cz])
 refine ml (fun h' x hq=>?_)
 have q0:=hq 0 _ rfl
 clear hq
 (replace z:=z.an x (by omega);rw [ao h'])
 obtain ⟨A0,dZ⟩:∃ A0,A0=h.size+0:=⟨_,rfl⟩
 rw [← dZ] at q0
 rw [← dZ]
 obtain ⟨I1,aS⟩:∃ I:Nat→Env→Heap→Prop,I=(fun n e h'=>∃ (i:Nat) (h1:Heap),h'=h1.lay [] h1.low∧Ext h h1∧(n=l.length - i∧i≤l.length∧Holds h1 A0 (.row (cX p0 p1 p2 p5 p6 q b) 28 false))∧∃ J:Nat→Value,e=(J 0::.string who::.pointer (some ⟨A0,0,none⟩)::jr J 3 3 (.int .i64 i::jr J 7 21 ([])))):=⟨_,rfl⟩
 refine dj I1 _ (by rw [aS];exact ⟨0,_,rfl,z,⟨rfl,by omega,q0⟩,aE (by kernel_rfl)⟩) ?_
 intro n e h' aL
 rw [aS] at aL
 obtain ⟨i,bH,rfl,z,hinv,J,rfl⟩:=aL
 clear q0
 obtain ⟨rfl,hi,q0⟩:=hinv
 have hw:i < l.length→IntKind.i64.wrap ((i:Int)+1)=((i+1:Nat):Int):=fun hh=>by unfold maxLen at hle;rw [wrap_i64 (by omega) (by omega)];omega
 simp only [syms,aa,seval,zy,q0.lay,eK,bx,cz]
 refine bt (fun aR=>?_) (fun aR=>?_)
 rotate_left
 ·repeat' ( simp only [syms,aa,seval,zy])
  exact hk _ _ _ (z.aw _ _ (by omega))
 obtain ⟨r,hr,bz⟩:=eU (l:=l) (i:=i) (by omega)
 repeat' (first|simp only [syms,aa,seval,zy,q0.lay,eK,bx]|((with_reducible apply bt) <;> intro _)|with_reducible_and_instances refine Sh (hl.mono z.inc) jS lq (by omega) hr (fun p hp=>?_)|with_reducible_and_instances refine wj hp HY (fun q hq=>?_)|with_reducible_and_instances refine FJ hp Sr (fun q hq=>?_)|with_reducible_and_instances refine hY hq kc ?_|with_reducible_and_instances refine hY hq L5 ?_)
 ·exact hk _ _ _ (z.aw _ _ (by omega))
 ·rw [hw (by omega)]
  (rw [aS];with_reducible refine cB (m:=_) ?_ ⟨i+1,_,rfl,z,⟨rfl,by omega,q0⟩,aE (by kernel_rfl)⟩;omega)
theorem zjc (l:List ByteArray) (p0 p1 p2 p5 p6:Value) (q b:Int) (h:Heap) (hl:Sl aJ.str h p0 l) (K:Value→Heap→Prop) (hk:∀ c h',Ext h h'→K (.int .i64 c) h'):Ok Tryz.prog ae ov 99 [gi p0 p1 p2 p5 p6 q b] h K:=by
 rw [ao h]
 have z:=Ext.refl h
 have bx:=bY p0
 have cz:=fun (hh:Heap)=>hl.bc cY hh
 refine Ok.aH rfl zD9 (br Wh) rfl (m:=38) rfl ?_
 repeat' (first|simp only [syms,aa,seval,zK,ek,dY,bx,cz]|((with_reducible apply bt) <;> intro _))
 ·exact hk _ _ (z.aw _ _ (by omega))
 ·exact hk _ _ (z.aw _ _ (by omega))
 refine ml (fun h' x hq=>?_)
 have q0:=hq 0 _ rfl
 clear hq
 (replace z:=z.an x (by omega);rw [ao h'])
 obtain ⟨A0,dZ⟩:∃ A0,A0=h.size+0:=⟨_,rfl⟩
 rw [← dZ] at q0
 rw [← dZ]
 obtain ⟨I1,aS⟩:∃ I:Nat→Env→Heap→Prop,I=(fun n e h'=>∃ (i:Nat) (h1:Heap),h'=h1.lay [] h1.low∧Ext h h1∧(n=l.length - i∧i≤l.length∧Holds h1 A0 (.row (cX p0 p1 p2 p5 p6 q b) 28 false))∧∃ J:Nat→Value,e=(J 0::.pointer (some ⟨A0,0,none⟩)::J 2::.int .i64 i::jr J 4 35 ([]))):=⟨_,rfl⟩
 refine dj I1 _ (by rw [aS];exact ⟨0,_,rfl,z,⟨rfl,by omega,q0⟩,aE (by kernel_rfl)⟩) ?_
 intro n e h' aL
 rw [aS] at aL
 obtain ⟨i,bH,rfl,z,hinv,J,rfl⟩:=aL
 clear q0
 obtain ⟨rfl,hi,q0⟩:=hinv
 have hw:=eb i (by omega)
 simp only [syms,aa,seval,zK,q0.lay,dY,bx,cz]
 refine bt (fun aR=>?_) (fun aR=>?_)
 rotate_left
 ·repeat' ( simp only [syms,aa,seval,zK])
  exact hk _ _ (z.aw _ _ (by omega))
 obtain ⟨r,hr,bz⟩:=eU (l:=l) (i:=i) (by omega)
 obtain ⟨a,m,c,g1,g2⟩:=zwE hl i hi
 have dA:∀ (h:Heap) (K:Value→Heap→Prop),aW (some (.slice a m c)) h K=K (.slice a m c) h:=fun _ _=>rfl
 repeat' (first|simp only [syms,aa,seval,zK,q0.lay,dY,bx]|with_reducible_and_instances refine qV (hl.mono z.inc) cY oq (by omega) hr (fun p hp=>?_)|with_reducible_and_instances refine hY hp kc ?_)
 refine eN _ _ _ (fun hs h' x=>?_) (fun h' x=>?_)
 rotate_left
 ·(replace z:=z.an x (by omega);( replace q0:=q0.over x );rw [ao h'])
  repeat' (first|simp only [syms,aa,seval,zK,Bool.not_false]|((with_reducible_and_instances apply b8);(· rfl)))
  exact hk _ _ (z.aw _ _ (by omega))
 (replace z:=z.an x (by omega);(replace q0:=q0.over x);rw [ao h'])
 repeat' (first|simp only [syms,aa,seval,zK,Bool.not_true,q0.lay,dY,bx,g1,dA,zrh,eG]|with_reducible refine dH (by simp only [zK]) (z.aw _ _ (by omega)) ?_|with_reducible_and_instances refine qV (hl.mono z.inc) cY oq (by omega) hr (fun p hp=>?_)|with_reducible_and_instances refine hY hp kc ?_|((with_reducible_and_instances apply b8);(· rfl)))
 refine HI (l.take i) r _ _ _ _ _ _ _ _ ((g2.mono z.inc).lay _ _) _ (fun h' x=>?_)
 (((with_reducible refine dv ?_ ?_ ?_);(· exact (by (simp only [dx]);have:=z.size;omega));(· exact x));replace z:=z.an x (by omega);(replace q0:=q0.over x);rw [ao h'])
 cases hh:jw (l.take i) r
 ·repeat' (first|simp only [syms,aa,seval,zK]|((with_reducible refine ⟨z.cN.lay _ _,?_⟩);(intro _ h' zz x _);( simp only [el,List.append_nil] at x );( replace q0:=q0.over x );(replace z:=zz);(clear zz);rw [ao h']))
  rw [hw]
  (rw [aS];with_reducible refine cB (m:=_) ?_ ⟨i+1,_,rfl,z,⟨rfl,by omega,q0⟩,aE (by kernel_rfl)⟩;omega)
 ·repeat' (first|simp only [syms,aa,seval,zK]|((with_reducible refine ⟨z.cN.lay _ _,?_⟩);(intro _ h' zz x _);( simp only [el,List.append_nil] at x );( replace q0:=q0.over x );(replace z:=zz);(clear zz);rw [ao h']))
  exact hk _ _ (z.aw _ _ (by omega))
theorem B4 (h:Heap) (l:List bh) (w i o:Nat) (v:Value) (hi:i < l.length):ic ae 73 (.pointer (some ⟨h.size+i,o,none⟩)) v (h.lay l w)=if v.cells.size=2 then rz l[i]? i o v.cells.toList h l w else none:=uO lq h l w i o v hi
theorem zjb (l:List bF) (p0 p1 p2 p5 p6:Value) (q b:Int) (h:Heap) (hl:Sl aJ.pred h p1 l) (K:Value→Heap→Prop) (hk:∀ c h',Ext h h'→K (.int .i64 c) h'):Ok Tryz.prog ae ov 100 [gi p0 p1 p2 p5 p6 q b] h K:=by
 rw [ao h]
 have z:=Ext.refl h
 have bx:=bY p1
 have cz:=fun (hh:Heap)=>hl.bc jS hh
 refine Ok.aH rfl zwI (br Kz) rfl (m:=46) rfl ?_
 repeat' (first|simp only [syms,aa,seval,nA,ek,eK,bx,cz]|((with_reducible apply bt) <;> intro _))
 ·exact hk _ _ (z.aw _ _ (by omega))
 refine ml (fun h' x hq=>?_)
 have q0:=hq 0 _ rfl
 clear hq
 (replace z:=z.an x (by omega);rw [ao h'])
 obtain ⟨A0,dZ⟩:∃ A0,A0=h.size+0:=⟨_,rfl⟩
 rw [← dZ] at q0
 rw [← dZ]
 obtain ⟨I1,aS⟩:∃ I:Nat→Env→Heap→Prop,I=(fun n e h'=>∃ (i:Nat) (h1:Heap),h'=h1.lay [] h1.low∧Ext h h1∧(n=l.length - i∧i≤l.length∧Holds h1 A0 (.row (cX p0 p1 p2 p5 p6 q b) 28 false))∧∃ J:Nat→Value,e=(J 0::.pointer (some ⟨A0,0,none⟩)::J 2::.int .i64 i::jr J 4 43 ([]))):=⟨_,rfl⟩
 refine dj I1 _ (by rw [aS];exact ⟨0,_,rfl,z,⟨rfl,by omega,q0⟩,aE (by kernel_rfl)⟩) ?_
 intro n e h' aL
 rw [aS] at aL
 obtain ⟨i,bH,rfl,z,hinv,J,rfl⟩:=aL
 clear q0
 obtain ⟨rfl,hi,q0⟩:=hinv
 have hw:=eb i (by omega)
 simp only [syms,aa,seval,nA,q0.lay,eK,bx,cz]
 refine bt (fun aR=>?_) (fun aR=>?_)
 rotate_left
 ·repeat' ( simp only [syms,aa,seval,nA])
  exact hk _ _ (z.aw _ _ (by omega))
 obtain ⟨r,hr,bz⟩:=eU (l:=l) (i:=i) (by omega)
 obtain ⟨a,m,c,g1,g2⟩:=zC5 hl i hi
 have dA:∀ (h:Heap) (K:Value→Heap→Prop),aW (some (.slice a m c)) h K=K (.slice a m c) h:=fun _ _=>rfl
 repeat' (first|simp only [syms,aa,seval,nA,q0.lay,eK,bx]|with_reducible_and_instances refine Sh (hl.mono z.inc) jS lq (by omega) hr (fun p hp=>?_)|with_reducible_and_instances refine Hc hp vQ lq ?_)
 repeat' (simp only [syms,aa,seval,nA,nT,pA,List.all_cons,List.all_nil,Am.one,Bool.and_true,Bool.true_and,Bool.and_self,List.set_cons_zero,List.set_cons_succ,lW,fV,pt,iA,iB,pF,B4])
 refine s8 _ _ _ (fun hs h' x=>?_) (fun h' x=>?_)
 rotate_left
 ·(replace z:=z.an x (by omega);( replace q0:=q0.over x );rw [ao h'])
  repeat' (first|simp only [syms,aa,seval,nA,Bool.not_false]|((with_reducible_and_instances apply b8);(· rfl)))
  exact hk _ _ (z.aw _ _ (by omega))
 have e0:=Holds.top (i:=0) x rfl
 (replace z:=z.an x (by omega);(replace q0:=q0.over x);rw [ao h'])
 obtain ⟨E0,nI⟩:∃ E0,E0=bH.size+0:=⟨_,rfl⟩
 rw [← nI] at e0
 rw [← nI]
 have wH:([.string r.name,.int .i64 r.arity]:List Value)[0]? = some (.string r.name):=rfl
 have tM:([.string r.name,.int .i64 r.arity]:List Value)[1]? = some (.int .i64 r.arity):=rfl
 repeat' (first|simp only [syms,aa,seval,nA,Bool.not_true,q0.lay,e0.lay,eK,bx,g1,dA,zyF,eG,wH]|with_reducible refine dH (by simp only [nA]) (z.aw _ _ (by omega)) ?_|((with_reducible_and_instances apply b8);(· rfl)))
 refine JG (l.take i) r.name _ _ _ _ _ _ _ _ ((g2.mono z.inc).lay _ _) _ (fun nn bb h' x=>?_)
 (((with_reducible refine dv ?_ ?_ ?_);(· exact (by (simp only [dx]);have:=z.size;omega));(· exact x));replace z:=z.an x (by omega);(replace q0:=q0.over x);(replace e0:=e0.over x);rw [ao h'])
 cases bb
 ·repeat' (first|simp only [syms,aa,seval,nA,e0.lay,tM]|((with_reducible  apply bt ) <;> intro _)|((with_reducible refine ⟨z.cN.lay _ _,?_⟩);(intro _ h' zz x _);( simp only [el,List.append_nil] at x );( replace q0:=q0.over x );( replace e0:=e0.over x );(replace z:=zz);(clear zz);rw [ao h']))
  ·exact hk _ _ (z.aw _ _ (by omega))
  ·exact hk _ _ (z.aw _ _ (by omega))
  rw [hw]
  (rw [aS];with_reducible refine cB (m:=_) ?_ ⟨i+1,_,rfl,z,⟨rfl,by omega,q0⟩,aE (by kernel_rfl)⟩;omega)
 ·repeat' (first|simp only [syms,aa,seval,nA]|((with_reducible refine ⟨z.cN.lay _ _,?_⟩);(intro _ h' zz x _);( simp only [el,List.append_nil] at x );( replace q0:=q0.over x );( replace e0:=e0.over x );(replace z:=zz);(clear zz);rw [ao h']))
  exact hk _ _ (z.aw _ _ (by omega))
theorem Rx (ps:List ByteArray) (x0:aZ) (v:Value) (p0 p1 p2 p5 p6:Value) (q b:Int) (h:Heap) (bf:(cX p0 p1 p2 p5 p6 q b).all Am.one=true) (hl:Sl aJ.str h p0 ps) (hv:Sl aJ.str h v x0.reads) (K:Value→Heap→Prop) (hk:∀ c h',Ext h h'→K (.int .i64 c) h'):Ok Tryz.prog ae ov 153 [gi p0 p1 p2 p5 p6 q b,.agg ⟨[.string x0.who,v]⟩] h K:=by
 rw [ao h]
 have z:=Ext.refl h
 have bx:=bY v
 have cz:=fun (hh:Heap)=>hv.bc cY hh
 have wH:([.string x0.who,v]:List Value)[0]? = some (.string x0.who):=rfl
 have tM:([.string x0.who,v]:List Value)[1]? = some v:=rfl
 refine Ok.aH rfl zxf (br K7) rfl (m:=48) rfl ?_
 repeat' (first|simp only [syms,aa,seval,nB,ek,wH,tM,bx,cz]|((with_reducible apply bt) <;> intro _))
 ·exact hk _ _ (z.aw _ _ (by omega))
 ·exact hk _ _ (z.aw _ _ (by omega))
 refine ml (fun h' x hq=>?_)
 have q0:=hq 0 _ rfl
 have e0:=hq 1 _ rfl
 clear hq
 (replace z:=z.an x (by omega);rw [ao h'])
 obtain ⟨A0,dZ⟩:∃ A0,A0=h.size+0:=⟨_,rfl⟩
 rw [← dZ] at q0
 rw [← dZ]
 obtain ⟨E0,nI⟩:∃ E0,E0=h.size+1:=⟨_,rfl⟩
 rw [← nI] at e0
 rw [← nI]
 obtain ⟨I1,aS⟩:∃ I:Nat→Env→Heap→Prop,I=(fun n e h'=>∃ (i:Nat) (h1:Heap),h'=h1.lay [] h1.low∧Ext h h1∧(n=x0.reads.length - i∧i≤x0.reads.length∧Holds h1 A0 (.row (cX p0 p1 p2 p5 p6 q b) 28 false)∧Holds h1 E0 (.row [.string x0.who,v] 75 false))∧∃ J:Nat→Value,e=(jr J 0 2 (.pointer (some ⟨A0,0,none⟩)::.pointer (some ⟨E0,0,none⟩)::J 4::.int .i64 i::jr J 6 44 ([])))):=⟨_,rfl⟩
 refine dj I1 _ (by rw [aS];exact ⟨0,_,rfl,z,⟨rfl,by omega,q0,e0⟩,aE (by kernel_rfl)⟩) ?_
 intro n e h' aL
 rw [aS] at aL
 obtain ⟨i,bH,rfl,z,hinv,J,rfl⟩:=aL
 clear q0 e0
 obtain ⟨rfl,hi,q0,e0⟩:=hinv
 have hw:=eb i (by omega)
 simp only [syms,aa,seval,nB,e0.lay,tM,bx,cz]
 refine bt (fun aR=>?_) (fun aR=>?_)
 rotate_left
 ·repeat' ( simp only [syms,aa,seval,nB])
  exact hk _ _ (z.aw _ _ (by omega))
 obtain ⟨r,hr,bz⟩:=eU (l:=x0.reads) (i:=i) (by omega)
 obtain ⟨a,m,c,g1,g2⟩:=zwE hv i hi
 have dA:∀ (h:Heap) (K:Value→Heap→Prop),aW (some (.slice a m c)) h K=K (.slice a m c) h:=fun _ _=>rfl
 repeat' (first|simp only [syms,aa,seval,nB,q0.lay,e0.lay,↓fm,eX,eG,wH,tM,bx]|with_reducible refine dH (by simp only [nB]) (z.aw _ _ (by omega)) ?_|with_reducible_and_instances refine qV (hv.mono z.inc) cY oq (by omega) hr (fun p hp=>?_)|with_reducible_and_instances refine hY hp kc ?_)
 refine HI ps r _ _ _ _ _ _ _ _ ((hl.mono z.inc).lay _ _) _ (fun h' x=>?_)
 (((with_reducible refine dv ?_ ?_ ?_);(· exact (by (simp only [dx]);have:=z.size;omega));(· exact x));replace z:=z.an x (by omega);(replace q0:=q0.over x);(replace e0:=e0.over x);rw [ao h'])
 cases hh:jw ps r
 ·repeat' (first|simp only [syms,aa,seval,nB,Bool.not_false]|((with_reducible_and_instances apply b8);(· rfl))|((with_reducible refine ⟨z.cN.lay _ _,?_⟩);(intro _ h' zz x _);( simp only [el,List.append_nil] at x );( replace q0:=q0.over x );( replace e0:=e0.over x );(replace z:=zz);(clear zz);rw [ao h']))
  exact hk _ _ (z.aw _ _ (by omega))
 repeat' (first|simp only [syms,aa,seval,nB,Bool.not_true,q0.lay,e0.lay,↓fm,eX,eG,wH,tM,bx,g1,dA,zrh]|with_reducible refine dH (by simp only [nB]) (z.aw _ _ (by omega)) ?_|((with_reducible apply bt) <;> intro _)|with_reducible_and_instances refine qV (hv.mono z.inc) cY oq (by omega) hr (fun p hp=>?_)|with_reducible_and_instances refine hY hp kc ?_|((with_reducible_and_instances apply b8);(· rfl))|((with_reducible refine ⟨z.cN.lay _ _,?_⟩);(intro _ h' zz x _);(simp only [el,List.append_nil] at x);(replace q0:=q0.over x);(replace e0:=e0.over x);(replace z:=zz);(clear zz);rw [ao h']))
 ·exact hk _ _ (z.aw _ _ (by omega))
 refine HI (x0.reads.take i) r _ _ _ _ _ _ _ _ ((g2.mono z.inc).lay _ _) _ (fun h' x=>?_)
 (((with_reducible refine dv ?_ ?_ ?_);(· exact (by (simp only [dx]);have:=z.size;omega));(· exact x));replace z:=z.an x (by omega);(replace q0:=q0.over x);(replace e0:=e0.over x);rw [ao h'])
 cases hh2:jw (x0.reads.take i) r
 ·repeat' (first|simp only [syms,aa,seval,nB]|((with_reducible refine ⟨z.cN.lay _ _,?_⟩);(intro _ h' zz x _);( simp only [el,List.append_nil] at x );( replace q0:=q0.over x );( replace e0:=e0.over x );(replace z:=zz);(clear zz);rw [ao h']))
  rw [hw]
  (rw [aS];with_reducible refine cB (m:=_) ?_ ⟨i+1,_,rfl,z,⟨rfl,by omega,q0,e0⟩,aE (by kernel_rfl)⟩;omega)
 ·repeat' (first|simp only [syms,aa,seval,nB]|((with_reducible refine ⟨z.cN.lay _ _,?_⟩);(intro _ h' zz x _);( simp only [el,List.append_nil] at x );( replace q0:=q0.over x );( replace e0:=e0.over x );(replace z:=zz);(clear zz);rw [ao h']))
  exact hk _ _ (z.aw _ _ (by omega))
theorem HN (d:au) (p0 p1 p2 p5 p6:Value) (q b:Int) (h:Heap) (bf:(cX p0 p1 p2 p5 p6 q b).all Am.one=true) (hd:dD h p0 p1 p2 p5 p6 d) (hn:d.aF.length≤70) (K:Value→Heap→Prop) (hk:∀ c h',Ext h h'→K (.int .i64 c) h'):Ok Tryz.prog ae ov 101 [gi p0 p1 p2 p5 p6 q b] h K:=by
 rw [ao h]
 have z:=Ext.refl h
 have bx:=bY p2
 have cz:=fun (hh:Heap)=>hd.s2.bc jT hh
 refine Ok.aH rfl zwJ (br KA) rfl (m:=49) rfl ?_
 repeat' (simp only [syms,aa,seval,js,ek,fN,bx,cz])
 refine ml (fun h' x hq=>?_)
 have q0:=hq 0 _ rfl
 clear hq
 (replace z:=z.an x (by omega);rw [ao h'])
 obtain ⟨A0,dZ⟩:∃ A0,A0=h.size+0:=⟨_,rfl⟩
 rw [← dZ] at q0
 rw [← dZ]
 obtain ⟨I1,aS⟩:∃ I:Nat→Env→Heap→Prop,I=(fun n e h'=>∃ (i:Nat) (h1:Heap),h'=h1.lay [] h1.low∧Ext h h1∧(n=d.aF.length - i∧i≤d.aF.length∧Holds h1 A0 (.row (cX p0 p1 p2 p5 p6 q b) 28 false))∧∃ J:Nat→Value,e=(J 0::.pointer (some ⟨A0,0,none⟩)::J 2::.int .i64 i::jr J 4 46 ([]))):=⟨_,rfl⟩
 refine dj I1 _ (by rw [aS];exact ⟨0,_,rfl,z,⟨rfl,by omega,q0⟩,aE (by kernel_rfl)⟩) ?_
 intro n e h' aL
 rw [aS] at aL
 obtain ⟨i,bH,rfl,z,hinv,J,rfl⟩:=aL
 clear q0
 obtain ⟨rfl,hi,q0⟩:=hinv
 have hw:=eb i (by omega)
 simp only [syms,aa,seval,js,q0.lay,fN,bx,cz]
 refine bt (fun aR=>?_) (fun aR=>?_)
 rotate_left
 ·repeat' ( simp only [syms,aa,seval,js])
  exact hk _ _ (z.aw _ _ (by omega))
 obtain ⟨r,hr,bz⟩:=eU (l:=d.aF) (i:=i) (by omega)
 repeat' (first|simp only [syms,aa,seval,js,q0.lay,↓fm,eX,eG,fN,bx]|with_reducible refine dH (by simp only [js]) (z.aw _ _ (by omega)) ?_|with_reducible_and_instances refine Df (hd.s2.mono z.inc) jT jD (by omega) hr (fun p bv hb hp=>?_)|with_reducible_and_instances refine wj hp Db (fun qq hq=>?_)|with_reducible_and_instances refine hY hq kc ?_)
 refine HI d.ah r.who _ _ _ _ _ _ _ _ ((hd.s0.mono z.inc).lay _ _) _ (fun h' x=>?_)
 (((with_reducible refine dv ?_ ?_ ?_);(· exact (by (simp only [dx]);have:=z.size;omega));(· exact x));replace z:=z.an x (by omega);(replace q0:=q0.over x);rw [ao h'])
 cases hh:jw d.ah r.who
 ·repeat' (first|simp only [syms,aa,seval,js,Bool.not_false]|((with_reducible_and_instances apply b8);(· rfl))|((with_reducible refine ⟨z.cN.lay _ _,?_⟩);(intro _ h' zz x _);( simp only [el,List.append_nil] at x );( replace q0:=q0.over x );(replace z:=zz);(clear zz);rw [ao h']))
  exact hk _ _ (z.aw _ _ (by omega))
 repeat' (first|simp only [syms,aa,seval,js,Bool.not_true]|((with_reducible_and_instances apply b8);(· rfl))|((with_reducible refine ⟨z.cN.lay _ _,?_⟩);(intro _ h' zz x _);(simp only [el,List.append_nil] at x);(replace q0:=q0.over x);(replace z:=zz);(clear zz);rw [ao h']))
 obtain ⟨I2,fM⟩:∃ I:Nat→Env→Heap→Prop,I=(fun n e h'=>∃ (k:Nat) (h1:Heap),h'=h1.lay [] h1.low∧Ext h h1∧(n=i - k∧k≤i∧Holds h1 A0 (.row (cX p0 p1 p2 p5 p6 q b) 28 false))∧∃ J:Nat→Value,e=(J 0::.pointer (some ⟨A0,0,none⟩)::J 2::.int .i64 i::.int .i64 k::jr J 5 45 ([]))):=⟨_,rfl⟩
 refine dj I2 _ (by rw [fM];exact ⟨0,_,rfl,z,⟨rfl,by omega,q0⟩,aE (by kernel_rfl)⟩) ?_
 intro n e h' aL
 rw [fM] at aL
 obtain ⟨k,bH,rfl,z,hinv,J,rfl⟩:=aL
 clear q0
 obtain ⟨rfl,wP,q0⟩:=hinv
 have pP:=eb k (by omega)
 simp only [syms,aa,seval,js]
 refine bt (fun i7=>?_) (fun i7=>?_)
 ·obtain ⟨e,he,sI⟩:=eU (l:=d.aF) (i:=k) (by omega)
  repeat' (first|simp only [syms,aa,seval,js,q0.lay,fN,bx]|with_reducible refine dH (by simp only [js]) (z.aw _ _ (by omega)) ?_|((with_reducible apply bt) <;> intro _)|with_reducible_and_instances refine Df (hd.s2.mono z.inc) jT jD (by omega) hr (fun p bv hb hp=>?_)|with_reducible_and_instances refine Df (hd.s2.mono z.inc) jT jD (by omega) he (fun p bv hb hp=>?_)|with_reducible_and_instances refine wj hp Db (fun qq hq=>?_)|with_reducible_and_instances refine hY hq kc ?_|((with_reducible refine ⟨z.cN.lay _ _,?_⟩);(intro _ h' zz x _);(simp only [el,List.append_nil] at x);(replace q0:=q0.over x);(replace z:=zz);(clear zz);rw [ao h']))
  ·exact hk _ _ (z.aw _ _ (by omega))
  ·rw [pP]
   (rw [fM];with_reducible refine cB (m:=_) ?_ ⟨k+1,_,rfl,z,⟨rfl,by omega,q0⟩,aE (by kernel_rfl)⟩;omega)
 have rS:k=i:=by omega
 subst rS
 repeat' (first|simp only [syms,aa,seval,js,q0.lay,↓fm,eX,eG,fN,bx]|with_reducible refine dH (by simp only [js]) (z.aw _ _ (by omega)) ?_|with_reducible_and_instances refine Df (hd.s2.mono z.inc) jT jD (by omega) hr (fun p bv hb hp=>?_)|with_reducible_and_instances refine Hc hp tu jD ?_)
 have pI:Sl aJ.str bH bv r.reads:=by assumption
 refine Rx d.ah r bv _ _ _ _ _ _ _ _ bf ((hd.s0.mono z.inc).lay _ _) (pI.lay _ _) _ (fun c h' x=>?_)
 (((with_reducible refine dv ?_ ?_ ?_);(· exact (by (simp only [dx]);have:=z.size;omega));(· exact x));replace z:=z.an x (by omega);(replace q0:=q0.over x);rw [ao h'])
 repeat' (first|simp only [syms,aa,seval,js]|((with_reducible apply iS) <;> intro _)|((with_reducible refine ⟨z.cN.lay _ _,?_⟩);(intro _ h' zz x _);(simp only [el,List.append_nil] at x);(replace q0:=q0.over x);(replace z:=zz);(clear zz);rw [ao h']))
 ·exact hk _ _ (z.aw _ _ (by omega))
 ·rw [hw]
  (rw [aS];with_reducible refine cB (m:=_) ?_ ⟨k+1,_,rfl,z,⟨rfl,by omega,q0⟩,aE (by kernel_rfl)⟩;omega)
end Go.Proofs.YtkgojconmeeegaaGreatDoor
