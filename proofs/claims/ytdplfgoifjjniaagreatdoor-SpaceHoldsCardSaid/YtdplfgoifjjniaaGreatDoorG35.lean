/- The code of some functions, node by node, for simp. Written by a program (mkcode.py). No condition. -/
import Derived.Test.YtdplfgoifjjniaaGreatDoorG34
import Derived.Test.YtdplfgoifjjniaaGreatDoorG29
set_option linter.unusedSimpArgs false
set_option linter.unusedVariables false
set_option maxRecDepth 100000
set_option maxHeartbeats 0
namespace Go.Proofs.YtdplfgoifjjniaaGreatDoor
open Go.Am
noncomputable def N77:=bq Tryz.f77
noncomputable def x77:=PLift.up (by have c:=bu N77 Tryz.f77;simp only [aE,Tryz.f77,seval] at c;exact nd c <| nd @zHZ <| nd @zH1 <| nd @zH2 <| @UO)
theorem Aj:type_of% x77.down:=x77.down
noncomputable def N78:=bq Tryz.f78
noncomputable def x78:=PLift.up (by have c:=bu N78 Tryz.f78;simp only [aE,Tryz.f78,seval] at c;exact nd c <| @UP)
theorem c78:type_of% x78.down:=x78.down
noncomputable def G7:=bq Tryz.f107
noncomputable def KM:=PLift.up (by have c:=bu G7 Tryz.f107;simp only [aE,Tryz.f107,seval] at c;exact nd c <| nd @Xg <| nd @D0 <| @zGZ)
theorem Ie:type_of% KM.down:=KM.down
noncomputable def N81:=bq Tryz.f81
noncomputable def x81:=PLift.up (by have c:=bu N81 Tryz.f81;simp only [aE,Tryz.f81,seval] at c;exact nd c <| nd @Bz <| nd @kL <| @US)
theorem c81:type_of% x81.down:=x81.down
noncomputable def Hj:=bq Tryz.f118
noncomputable def KY:=PLift.up (by have c:=bu Hj Tryz.f118;simp only [aE,Tryz.f118,seval] at c;exact nd c <| nd @Ca <| nd @GJ <| nd @EM <| nd @MQ <| nd @uS <| nd @rZ <| nd @kV <| nd @D3 <| nd @gf <| nd @uV <| @zHa)
theorem tz:type_of% KY.down:=KY.down
noncomputable def N90:=bq Tryz.f90
noncomputable def x90:=PLift.up (by have c:=bu N90 Tryz.f90;simp only [aE,Tryz.f90,seval] at c;exact nd c <| nd @BN <| nd @ri <| nd @EL <| nd @BA <| nd @eO <| nd @kV <| nd @gf <| @U2)
theorem pU:type_of% x90.down:=x90.down
noncomputable def Hk:=bq Tryz.f119
noncomputable def KZ:=PLift.up (by have c:=bu Hk Tryz.f119;simp only [aE,Tryz.f119,seval] at c;exact nd c <| nd @b9 <| @zHb)
theorem Ij:type_of% KZ.down:=KZ.down
noncomputable def N60:=bq Tryz.f60
noncomputable def x60:=PLift.up (by have c:=bu N60 Tryz.f60;simp only [aE,Tryz.f60,seval] at c;exact nd c <| nd @BN <| nd @ri <| nd @eO <| nd @b9 <| nd @gf <| @Uy)
theorem qG:type_of% x60.down:=x60.down
noncomputable def N89:=bq Tryz.f89
noncomputable def x89:=PLift.up (by have c:=bu N89 Tryz.f89;simp only [aE,Tryz.f89,seval] at c;exact nd c <| nd @eO <| nd @b9 <| @U1)
theorem c89:type_of% x89.down:=x89.down
noncomputable def N64:=bq Tryz.f64
noncomputable def x64:=PLift.up (by have c:=bu N64 Tryz.f64;simp only [aE,Tryz.f64,seval] at c;exact nd c <| nd @b9 <| @UB)
theorem c64:type_of% x64.down:=x64.down
def eK (h:Heap) (fv:Value) (e:Int):Prop:=(∃ (f:Fn) (a b:Array Value),fv=.func f a b)∧∀ hc (K:Value→Heap→Prop),aT [] h hc→(∀ h',Ext hc h'→K (.int .i64 e) h')→so Tryz.prog ae ov [] hc K fv
theorem eK.dL {h h2:Heap} {fv:Value} {e:Int} (r:eK h fv e) (x:aT [] h h2):eK h2 fv e:=⟨r.1,fun hc K y hk=>r.2 hc K (x.trans y (fun _ h=>nomatch h)) hk⟩
theorem eK.over {h1 h2:Heap} {bs:List bh} {w:Nat} {fv:Value} {e:Int} (r:eK h1 fv e) (x:Ext (h1.lay bs w) h2):eK h2 fv e:=r.dL ((aT.refl [] h1).over x)
theorem eK.lay {h1:Heap} {fv:Value} {e:Int} (r:eK h1 fv e) (bs:List bh) (w:Nat):eK (h1.lay bs w) fv e:=r.dL (aT.lay _ _ _ _)
theorem zCU (b:Bool) (e:Int) (A B:Nat) (h:Heap) (q0:Holds h A (.row [.bool b] 4 false)) (q1:Holds h B (.row [.int .i64 e] 33 false)) (K:Value→Heap→Prop) (hk:∀ h',Ext h h'→K (.int .i64 (aX b e)) h'):Ok Tryz.prog ae ov 107 [.pointer (some ⟨A,0,none⟩),.pointer (some ⟨B,0,none⟩)] h K:=by
 rw [ao h]
 have z:=Ext.refl h
 refine Ok.aD rfl zuY (br G7) rfl (m:=3) rfl ?_
 cases b
 ·simp -implicitDefEqProofs only [syms,aa,seval,Ie,q0.lay,q1.lay]
  exact hk _ (z.aw _ _ (by omega))
 ·simp -implicitDefEqProofs only [syms,aa,seval,Ie,q0.lay,q1.lay]
  exact hk _ (z.aw _ _ (by omega))
theorem lS (b:Bool) (e:Int) (h:Heap) (K:Value→Heap→Prop) (hk:∀ h' fv,Ext h h'→eK h' fv (aX b e)→K fv h'):Ok Tryz.prog ae ov 78 [.bool b,.int .i64 e] h K:=by
 rw [ao h]
 have z:=Ext.refl h
 refine Ok.aD rfl zAv (br N78) rfl (m:=4) rfl ?_
 simp -implicitDefEqProofs only [syms,aa,seval,c78]
 refine hk _ _ (z.aw _ _ (by omega)) ⟨⟨_,_,_,rfl⟩,fun hc K2 y fp=>?_⟩
 rw [vW]
 exact zCU b e _ _ hc (Holds.fD ⟨by rw [bB];simp,by rw [kX];rfl⟩ y) (Holds.fD ⟨by rw [bB];simp,by rw [kX];rfl⟩ y) K2 fp
theorem zmS {es:List Int} {i:Nat} {e:Int} (hz:∀ x∈es.take i,x=0) (he:es[i]? = some e) (aO:e≠0):gh es=e:=by
 induction es generalizing i with
 |nil=>simp at he
 |cons x es ih =>
  rw [iq]
  cases i with
  |zero=>simp at he;subst he;rw [if_neg aO]
  |succ i =>
   rw [if_pos (hz x (by simp))]
   exact ih (fun y hy=>hz y (by rw [List.take_succ_cons];exact List.mem_cons_of_mem _ hy)) (by simpa using he)
theorem wh (po:List Value) (es:List Int) (v:Value) (h:Heap) (hl:Sl aK.IH h v po) (hs:po.length≤100) (hlen:es.length=po.length) (hr:∀ (i:Nat) fv e,po[i]? = some fv→es[i]? = some e→eK h fv e) (K:Value→Heap→Prop)
 (hk:∀ h',Ext h h'→K (.int .i64 (gh es)) h'):Ok Tryz.prog ae ov 77 [v] h K:=by
 rw [ao h]
 have z:=Ext.refl h
 have bC:=cJ v
 have cp:=fun (hh:Heap)=>hl.bd M8 hh
 refine Ok.aD rfl zAu (br N77) rfl (m:=17) rfl ?_
 simp -implicitDefEqProofs only [syms,aa,seval,Aj,bC,cp]
 obtain ⟨I1,aR⟩:∃ I:Nat→Env→Heap→Prop,I=(fun n e h'=>∃ (i:Nat) (h1:Heap),h'=h1.lay [] h1.low∧Ext h h1∧(n=po.length - i∧i≤po.length∧∀ x∈es.take i,x=0)∧∃ J:Nat→Value,e=(jr J 0 6 (v::.int .i64 po.length::.int .i64 i::jr J 9 9 ([])))):=⟨_,rfl⟩
 refine dg I1 _ (by rw [aR];exact ⟨0,_,rfl,z,⟨rfl,by omega,by simp⟩,aB (by kernel_rfl)⟩) ?_
 intro n e h' aH
 rw [aR] at aH
 obtain ⟨i,bE,rfl,z,hinv,J,rfl⟩:=aH
 obtain ⟨rfl,hi,az⟩:=hinv
 have hw:=eg i (by omega)
 simp -implicitDefEqProofs only [syms,aa,seval,Aj]
 refine bp (fun aS=>?_) (fun aS=>?_)
 rotate_left
 ·rw [List.take_of_length_le (by omega)] at az
  rw [cH.2 az] at hk
  simp -implicitDefEqProofs only [syms,aa,seval,Aj]
  exact hk _ (z.aw _ _ (by omega))
 obtain ⟨fv,hf,VQ⟩:=eP (l:=po) (i:=i) (by omega)
 obtain ⟨e,he,qL⟩:=eP (l:=es) (i:=i) (by omega)
 have j9:=cJ fv
 simp -implicitDefEqProofs only [syms,aa,seval,Aj,bC]
 repeat' ((first|with_reducible_and_instances refine ztH (hl.mono z.inc) M8 zIm (by omega) hf (fun p hp=>?_)|with_reducible_and_instances refine fX hp Ya ?_) <;> simp -implicitDefEqProofs only [syms,aa,seval,Aj,bC,j9])
 refine (hr i fv e VQ qL).2 _ _ ((z.aw _ _ (by omega)).dL []) (fun h' x=>?_)
 (replace z:=z.an x (by omega);rw [ao h'])
 clear hp
 simp -implicitDefEqProofs only [syms,aa,seval,Aj]
 refine iK (fun aO=>?_) (fun heq=>?_)
 ·rw [zmS az qL aO] at hk
  simp -implicitDefEqProofs only [syms,aa,seval,Aj]
  exact hk _ (z.aw _ _ (by omega))
 ·simp -implicitDefEqProofs only [syms,aa,seval,Aj]
  rw [hw]
  (rw [aR];with_reducible refine cz (m:=_) ?_ ⟨i+1,_,rfl,z,⟨rfl,by omega,pf (i:=i) (P:=fun x:Int=>x=0) qL az heq⟩,aB (by kernel_rfl)⟩;omega)
theorem LP (l:List ByteArray) (bt:ByteArray) (p0 p1 p2 p5 p6:Value) (q b:Int) (h:Heap) (hl:Sl aK.str h p0 l) (hs:l.length≤1000) (K:Value→Heap→Prop) (hk:∀ h',Ext h h'→K (.bool (bg l bt)) h'):Ok Tryz.prog ae ov 81 [gQ p0 p1 p2 p5 p6 q b,.string bt] h K:=by
 rw [ao h]
 have z:=Ext.refl h
 have bC:=cJ p0
 have dF:=lD
 refine Ok.aD rfl zAy (br N81) rfl (m:=7) rfl ?_
 simp -implicitDefEqProofs only [syms,aa,seval,c81,eQ,dy,bC,dF]
 refine FZ l p0 bt _ (hl.lay _ _) hs _ (fun h' x=>?_)
 (replace z:=z.an x (by omega);rw [ao h'])
 simp -implicitDefEqProofs only [syms,aa,seval,c81]
 exact hk _ (z.aw _ _ (by omega))
theorem zl9 {l:List bx} {i:Nat} {x:bx} {s:ByteArray} (hz:∀ y∈l.take i,¬ y.name=s) (hx:l[i]? = some x) (he:x.name=s):lT l s=(x.arity,true):=by
 induction l generalizing i with
 |nil=>simp at hx
 |cons y l ih =>
  unfold lT at ih ⊢
  cases i with
  |zero=>simp at hx;subst hx;rw [List.find?_cons_of_pos (by simpa using he)]
  |succ i =>
   rw [List.find?_cons_of_neg (by simpa using hz y (by simp))]
   exact ih (fun w hw=>hz w (by rw [List.take_succ_cons];exact List.mem_cons_of_mem _ hw)) (by simpa using hx)
theorem zif {l:List bx} {s:ByteArray} (hz:∀ y∈l,¬ y.name=s):lT l s=(0,false):=by
 unfold lT
 rw [List.find?_eq_none.2 (fun x hx=>by simpa using hz x hx)]
theorem zEu (h:Heap) (l:List bh) (w i o:Nat) (v:Value) (hi:i < l.length):gA ae 67 (.pointer (some ⟨h.size+i,o,none⟩)) v (h.lay l w)=if v.cells.size=2 then qw l[i]? i o v.cells.toList h l w else none:=tc kb h l w i o v hi
theorem zt0 (l:List bx) (bt:ByteArray) (p0 p1 p2 p5 p6:Value) (q b:Int) (h:Heap) (hl:Sl aK.pred h p1 l) (K:Value→Heap→Prop) (hk:∀ h',Ext h h'→K (.tuple #[.int .i64 (lT l bt).1,.bool (lT l bt).2]) h'):Ok Tryz.prog ae ov 118 [gQ p0 p1 p2 p5 p6 q b,.string bt] h K:=by
 rw [ao h]
 have z:=Ext.refl h
 have hle:=hl.le
 have bC:=cJ p1
 have dF:=lD
 have cp:=fun (hh:Heap)=>hl.bd iY hh
 refine Ok.aD rfl zu9 (br Hj) rfl (m:=20) rfl ?_
 simp -implicitDefEqProofs only [syms,aa,seval,tz,eQ,eo,bC,cp]
 refine lG (fun h' x hq=>?_)
 have q0:=hq 0 _ rfl
 clear hq
 (replace z:=z.an x (by omega);rw [ao h'])
 obtain ⟨I1,aR⟩:∃ I:Nat→Env→Heap→Prop,I=(fun n e h'=>∃ (i:Nat) (h1:Heap),h'=h1.lay [] h1.low∧Ext h h1∧(n=l.length - i∧i≤l.length∧∀ y∈l.take i,¬ y.name=bt)∧∃ J:Nat→Value,e=(J 0::.string bt::jr J 2 7 (p1::.int .i64 l.length::.int .i64 i::jr J 12 10 ([])))):=⟨_,rfl⟩
 refine dg I1 _ (by rw [aR];exact ⟨0,_,rfl,z,⟨rfl,by omega,by simp⟩,aB (by kernel_rfl)⟩) ?_
 intro n e h' aH
 rw [aR] at aH
 obtain ⟨i,bE,rfl,z,hinv,J,rfl⟩:=aH
 obtain ⟨rfl,hi,az⟩:=hinv
 have hw:i < l.length→IntKind.i64.wrap ((i:Int)+1)=((i+1:Nat):Int):=fun hh=>by unfold maxLen at hle;rw [wrap_i64 (by omega) (by omega)];omega
 simp -implicitDefEqProofs only [syms,aa,seval,tz]
 refine bp (fun aS=>?_) (fun aS=>?_)
 rotate_left
 ·rw [List.take_of_length_le (by omega)] at az
  rw [zif az] at hk
  simp -implicitDefEqProofs only [syms,aa,seval,tz]
  exact hk _ (z.aw _ _ (by omega))
 obtain ⟨r,hr,bo⟩:=eP (l:=l) (i:=i) (by omega)
 repeat' (first|simp -implicitDefEqProofs only [syms,aa,seval,tz,bC]|with_reducible_and_instances refine MU (hl.mono z.inc) iY kb (by omega) hr (fun p hp=>?_)|with_reducible_and_instances refine Km hp tm kb ?_)
 repeat' (first|simp -implicitDefEqProofs only [syms,aa,seval,tz,mr,nO,List.all_cons,List.all_nil,Am.one,Bool.and_true,Bool.true_and,Bool.and_self,List.set_cons_zero,List.set_cons_succ,kM,fe,nJ,gy,gz,zEu,dF]|((with_reducible apply bp) <;> intro _))
 ·rw [zl9 az bo (by assumption)] at hk
  exact hk _ (z.aw _ _ (by omega))
 ·rw [hw (by omega)]
  refine OP (z.aw _ _ (by omega)) (fun H z hO hI=>?_)
  (rw [aR];with_reducible refine cz (m:=_) ?_ ⟨i+1,_,rfl,z,⟨rfl,by omega,pf (i:=i) (P:=fun y:bx=>¬ y.name=bt) bo az (by assumption)⟩,aB (by kernel_rfl)⟩;omega)
theorem zt1 (a:ab) (h:Heap) (cA:aY 1 h) (K:Value→Heap→Prop) (hk:∀ h',Ext h h'→K (.int .i64 (iQ a)) h'):Ok Tryz.prog ae ov 120 [a.val] h K:=by
 rw [ao h]
 have z:=Ext.refl h
 refine Ok.aD rfl zvb (br Hl) rfl (m:=40) rfl ?_
 repeat' (simp -implicitDefEqProofs only [syms,aa,seval,k6,eW,BJ,Pz,GF])
 refine Zz _ _ (cA.lay _ _) _ (fun hs h' x=>?_) (fun hs h' x=>?_)
 rotate_left
 ·(replace z:=z.an x (by omega);rw [ao h'])
  repeat' (first|simp -implicitDefEqProofs only [syms,aa,seval,k6]|((with_reducible_and_instances apply cm);(· rfl)))
  rw [OU (.inl hs)] at hk
  exact hk _ (z.aw _ _ (by omega))
 have q0:=Holds.top (i:=0) x rfl
 (replace z:=z.an x (by omega);rw [ao h'])
 repeat' (first|simp -implicitDefEqProofs only [syms,aa,seval,k6,q0.lay,BJ,Pz,GF]|((with_reducible_and_instances apply cm);(· rfl)))
 refine zqm _ _ ((cA.ext z).lay _ _) _ (fun hp h' x=>?_) (fun hp h' x=>?_)
 rotate_left
 ·(replace z:=z.an x (by omega);( replace q0:=q0.over x );rw [ao h'])
  repeat' (first|simp -implicitDefEqProofs only [syms,aa,seval,k6]|((with_reducible_and_instances apply cm);(· rfl)))
  rw [OU (.inr hp)] at hk
  exact hk _ (z.aw _ _ (by omega))
 (replace z:=z.an x (by omega);(replace q0:=q0.over x);rw [ao h'])
 repeat' (first|simp -implicitDefEqProofs only [syms,aa,seval,k6,q0.lay,BJ,Pz,GF,↓ff,eR,dQ]|((with_reducible apply bp) <;> intro _)|((with_reducible_and_instances apply cm);(· rfl)))
 all_goals first
  |(rw [zn5 hs hp (by omega)] at hk
    exact hk _ (z.aw _ _ (by omega)))
  |skip
 have nX:0≤a.n:=by omega
 have FL:a.n≤4:=by omega
 have w7:a.cx=a.n.toNat:=zDM nX FL
 refine MB a _ _ (fun w h' x sw=>?_)
 (replace z:=z.an x (by omega);(replace q0:=q0.over x);rw [ao h'])
 have jm:=cJ w
 repeat' (simp -implicitDefEqProofs only [syms,aa,seval,k6,jm])
 refine zfl a.args w _ pP _ (sw.lay _ _) (by rw [sS];have:=ZI a;omega) (fun t hc K' xe hK=>by rw [pA];exact zrA t hc ((cA.ext z).lay _ _ |>.ext xe) K' hK) _ (fun h' x=>?_)
 (replace z:=z.an x (by omega);(replace q0:=q0.over x);rw [ao h'])
 cases Jb:a.args.any pP
 rotate_left
 ·repeat' ( simp -implicitDefEqProofs only [syms,aa,seval,k6])
  rw [zkU hs hp (by omega) Jb] at hk
  exact hk _ (z.aw _ _ (by omega))
 rw [zkT hs hp (by omega) Jb,w7] at hk
 obtain ⟨k,ak6⟩:=Int.eq_ofNat_of_zero_le nX
 have um:k≤4:=by omega
 have pz:=zBm
 have fm:=zC5 q0 k um
 have qg:(0:Int)≤a.n∧a.n≤4:=⟨nX,FL⟩
 repeat' (simp -implicitDefEqProofs only [syms,aa,seval,k6,q0.lay,GF,zBm _ _ _ nX FL])
 have AH:a.n.toNat=k:=by omega
 rw [AH] at hk ⊢
 obtain ⟨sv,A4⟩:∃ sv,sv=Value.slice (some ⟨h.size+0,if 4=k then 3 else 3+k*2,none⟩) (4 - k) (4 - k):=⟨_,rfl⟩
 rw [← A4] at fm ⊢
 clear pz
 obtain ⟨I1,aR⟩:∃ I:Nat→Env→Heap→Prop,I=(fun n e h'=>∃ (i:Nat) (h1:Heap),h'=h1.lay [] h1.low∧Ext h h1∧(n=4 - k - i∧i≤4 - k∧(∀ t∈(a.all.drop k).take i,t=bT)∧Sl aK.term h1 sv (a.all.drop k))∧∃ J:Nat→Value,e=(jr J 0 31 (sv::.int .i64 ((4 - k:Nat):Int)::.int .i64 i::jr J 34 7 ([])))):=⟨_,rfl⟩
 refine dg I1 _ (by rw [aR];exact ⟨0,_,rfl,z,⟨rfl,by omega,by simp,fm⟩,aB (by kernel_rfl)⟩) ?_
 intro n e h' aH
 rw [aR] at aH
 obtain ⟨i,bE,rfl,z,hinv,J,rfl⟩:=aH
 clear fm q0
 obtain ⟨rfl,hi,az,fm⟩:=hinv
 have gO:=eg i (by omega)
 have Vx:=L4 a k
 simp -implicitDefEqProofs only [syms,aa,seval,k6]
 refine bp (fun aS=>?_) (fun aS=>?_)
 rotate_left
 ·rw [List.take_of_length_le (by omega)] at az
  repeat' (simp -implicitDefEqProofs only [syms,aa,seval,k6])
  rw [if_neg (by rw [List.any_eq_true];rintro ⟨x,hx,e⟩;simp [az x hx] at e)] at hk
  exact hk _ (z.aw _ _ (by omega))
 obtain ⟨⟨rv,rs⟩,hr,bo⟩:=eP (l:=a.all.drop k) (i:=i) (by omega)
 have hri:a.arg (k+i)=⟨rv,rs⟩:=Option.some.inj ((zA4 a (by omega)).symm.trans bo)
 repeat' (first|simp -implicitDefEqProofs only [syms,aa,seval,k6,mr,nO,List.all_cons,List.all_nil,Am.one,Bool.and_true,Bool.true_and,Bool.and_self,List.set_cons_zero,List.set_cons_succ,kM,fe,nJ,gy,gz,aQ.val,aQ.cells,zqR,zom]|((with_reducible apply MT) <;> intro _)|with_reducible_and_instances refine MM fm vB iJ (by omega) hr (fun p hp=>?_)|with_reducible_and_instances refine FW hp oh iJ ?_)
 ·have Wr:¬ (⟨rv,rs⟩:aQ)=bT:=‹¬ (⟨rv,rs⟩:aQ)=⟨false,⟨#[]⟩⟩›
  rw [if_pos (List.any_eq_true.2 ⟨_,List.mem_of_getElem? bo,by simp [Wr]⟩)] at hk
  exact hk _ (z.aw _ _ (by omega))
 ·have VN:(⟨rv,rs⟩:aQ)=bT:=‹(⟨rv,rs⟩:aQ)=⟨false,⟨#[]⟩⟩›
  rw [gO]
  refine OP (z.aw _ _ (by omega)) (fun H z hO hI=>?_)
  (rw [aR];with_reducible refine cz (m:=_) ?_ ⟨i+1,_,rfl,z,⟨rfl,by omega,pf (i:=i) (P:=fun t:aQ=>t=bT) bo az VN,fm.mono hI⟩,aB (by kernel_rfl)⟩;omega)
theorem zwV (a:ab) (A:Nat) (h:Heap) (cA:aY 1 h) (q0:Holds h A (.row a.cells 42 false)) (K:Value→Heap→Prop) (hk:∀ h',Ext h h'→K (.int .i64 (iQ a)) h'):Ok Tryz.prog ae ov 119 [.pointer (some ⟨A,0,none⟩)] h K:=by
 rw [ao h]
 have z:=Ext.refl h
 refine Ok.aD rfl zva (br Hk) rfl (m:=3) rfl ?_
 simp -implicitDefEqProofs only [syms,aa,seval,Ij,q0.lay,eW,↓ff,eR,dQ]
 refine zt1 a _ (cA.lay _ _) _ (fun h' x=>?_)
 (replace z:=z.an x (by omega);rw [ao h'])
 simp -implicitDefEqProofs only [syms,aa,seval,Ij]
 exact hk _ (z.aw _ _ (by omega))
theorem wg (b:Bool) (h:Heap) (K:Value→Heap→Prop):pL b h K=K (.bool b) h:=by
 unfold pL
 cases b
 ·simp
 ·simp
theorem wx {h:Heap} {bs:List bh} {w i c:Nat} {u:TypeId} {ro:Bool} {l:List Value} (hb:bs[i]? = some (.row l u ro)) (h1:l.all Am.one=true) (hc:c=l.length) (hl:l.length≤100):Sl aK.IH (h.lay bs w) (.slice (some ⟨h.size+i,0,none⟩) l.length c) l:=by
 have hi:=(List.getElem?_eq_some_iff.1 hb).1
 refine .inr ⟨h.size+i,0,c,l,u,ro,rfl,by unfold maxLen;omega,.inl ⟨by unfold G;omega,by omega⟩,by rw [bB];omega,by rw [kX];exact hb,fun j x hx=>⟨[x],?_,rfl,List.all_eq_true.1 h1 x (List.mem_of_getElem? hx)⟩⟩
 have hj:=List.getElem?_eq_some_iff.1 hx
 have py:=hj.1
 show cut l (0+j*1) 1=some [x]
 unfold cut
 rw [if_pos (by omega),Nat.zero_add,Nat.mul_one,List.drop_eq_getElem_cons hj.1,hj.2]
 rfl
theorem Zy (d:au) (a:ab) (p0 p1 p2 p5 p6:Value) (q b:Int) (h:Heap) (cA:aY 1 h) (bw:(dw p0 p1 p2 p5 p6 q b).all Am.one=true) (h0:Sl aK.str h p0 d.aj) (h1:Sl aK.pred h p1 d.bA) (hs:d.aj.length≤1000) (K:Value→Heap→Prop) (hk:∀ h',Ext h h'→K (.int .i64 (iu d a)) h'):Ok Tryz.prog ae ov 90 [gQ p0 p1 p2 p5 p6 q b,a.val] h K:=by
 rw [ao h]
 have z:=Ext.refl h
 have dF:=lD
 refine Ok.aD rfl zAH (br N90) rfl (m:=29) rfl ?_
 simp -implicitDefEqProofs only [syms,aa,seval,pU,eQ,↓im,gP,gk,eW,Pz,dF]
 refine zt0 d.bA a.pred _ _ _ _ _ _ _ _ (h1.lay _ _) _ (fun h' x=>?_)
 have q0:=Holds.top (i:=0) x rfl
 have q1:=Holds.top (i:=1) x rfl
 (replace z:=z.an x (by omega);rw [ao h'])
 simp -implicitDefEqProofs only [syms,aa,seval,pU,q0.lay,q1.lay]
 rw [wg]
 simp -implicitDefEqProofs only [syms,aa,seval,pU,q0.lay,q1.lay]
 with_reducible first|refine eu (by simp only [pU]) (z.aw _ _ (by omega)) ?_
 simp -implicitDefEqProofs only [syms,aa,seval,pU,q0.lay,q1.lay,eQ,↓im,gP,gk,BJ,GF,dF]
 refine LP d.aj a.says _ _ _ _ _ _ _ _ ((h0.mono z.inc).lay _ _) hs _ (fun h' x=>?_)
 (((with_reducible refine dK ?_ ?_ ?_);(· exact (by (simp only [dM]);have:=z.size;omega));(· exact x));replace z:=z.an x (by omega);(replace q0:=q0.over x);(replace q1:=q1.over x);rw [ao h'])
 simp -implicitDefEqProofs only [syms,aa,seval,pU]
 (with_reducible_and_instances apply cm);(· rfl)
 simp -implicitDefEqProofs only [syms,aa,seval,pU]
 refine lS _ _ _ _ (fun h' f1 x r1=>?_)
 (((with_reducible refine dK ?_ ?_ ?_);(· exact (by (simp only [dM]);have:=z.size;omega));(· exact x));replace z:=z.an x (by omega);(replace q0:=q0.over x);(replace q1:=q1.over x);rw [ao h'])
 simp -implicitDefEqProofs only [syms,aa,seval,pU]
 (with_reducible_and_instances apply cm);(· rfl)
 simp -implicitDefEqProofs only [syms,aa,seval,pU]
 refine lS _ _ _ _ (fun h' f2 x r2=>?_)
 (((with_reducible refine dK ?_ ?_ ?_);(· exact (by (simp only [dM]);have:=z.size;omega));(· exact x));replace z:=z.an x (by omega);(replace q0:=q0.over x);(replace q1:=q1.over x);(replace r1:=r1.over x);rw [ao h'])
 simp -implicitDefEqProofs only [syms,aa,seval,pU,q0.lay,q1.lay,BJ,GF,dF]
 rw [wg]
 simp -implicitDefEqProofs only [syms,aa,seval,pU]
 refine lS _ _ _ _ (fun h' f3 x r3=>?_)
 (((with_reducible refine dK ?_ ?_ ?_);(· exact (by (simp only [dM]);have:=z.size;omega));(· exact x));replace z:=z.an x (by omega);(replace q0:=q0.over x);(replace q1:=q1.over x);(replace r1:=r1.over x);(replace r2:=r2.over x);rw [ao h'])
 obtain ⟨A1,mb⟩:∃ A1,A1=h.size+1:=⟨_,rfl⟩
 rw [← mb] at q1
 rw [← mb]
 have r0:eK h' (.func (.func 119) ⟨[]⟩ ⟨[.pointer (some ⟨A1,0,none⟩)]⟩) (iQ a):=⟨⟨_,_,_,rfl⟩,fun hc K2 y fp=>by rw [vW];exact zwV a A1 hc (Holds.fD (cA.ext z) y) (Holds.fD q1 y) K2 fp⟩
 obtain ⟨g1,u1,v1,rfl⟩:=r1.1
 obtain ⟨g2,u2,v2,rfl⟩:=r2.1
 obtain ⟨g3,u3,v3,rfl⟩:=r3.1
 simp -implicitDefEqProofs only [syms,aa,seval,pU]
 refine Ep (by have:=z.size;omega) (by omega) ?_
 simp -implicitDefEqProofs only [syms,aa,seval,pU]
 refine wh [.func (.func 119) ⟨[]⟩ ⟨[.pointer (some ⟨A1,0,none⟩)]⟩,.func g1 u1 v1,.func g2 u2 v2,.func g3 u3 v3] [iQ a,aX (!bg d.aj a.says) 6,aX (!(lT d.bA a.pred).2) 7,aX ((lT d.bA a.pred).1 != a.n) 8] _ _ (wx (i:=0) rfl rfl rfl (by simp)) (by simp) rfl (fun i fv e h1 h2=>?_) _ (fun h' x=>?_)
 ·match i,h1,h2 with
  |0,h1,h2=>cases h1;cases h2;exact r0.lay _ _
  |1,h1,h2=>cases h1;cases h2;exact r1.lay _ _
  |2,h1,h2=>cases h1;cases h2;exact r2.lay _ _
  |3,h1,h2=>cases h1;cases h2;exact r3.lay _ _
 (((with_reducible refine dK ?_ ?_ ?_);(· exact (by (simp only [dM]);have:=z.size;omega));(· exact x));replace z:=z.an x (by omega);(replace q0:=q0.over x);(replace q1:=q1.over x);(replace r1:=r1.over x);(replace r2:=r2.over x);(replace r3:=r3.over x);rw [ao h'])
 simp -implicitDefEqProofs only [syms,aa,seval,pU]
 ((with_reducible refine ⟨z.cW.lay _ _,?_⟩);(intro _ h' zz x _);(simp only [cq,List.append_nil] at x);(replace q0:=q0.over x);(replace q1:=q1.over x);(replace r1:=r1.over x);(replace r2:=r2.over x);(replace r3:=r3.over x);(replace z:=zz);(clear zz);rw [ao h'])
 simp -implicitDefEqProofs only [syms,aa,seval,pU]
 have he:gh [iQ a,aX (!bg d.aj a.says) 6,aX (!(lT d.bA a.pred).2) 7,aX ((lT d.bA a.pred).1 != a.n) 8]=iu d a:=rfl
 rw [he]
 exact hk _ (z.aw _ _ (by omega))
theorem zwZ (d:au) (a:ab) (p0 p1 p2 p5 p6:Value) (q b:Int) (A B:Nat) (h:Heap) (cA:aY 1 h) (bw:(dw p0 p1 p2 p5 p6 q b).all Am.one=true) (h0:Sl aK.str h p0 d.aj) (h1:Sl aK.pred h p1 d.bA) (hs:d.aj.length≤1000) (q0:Holds h A (.row (dw p0 p1 p2 p5 p6 q b) 29 false)) (q1:Holds h B (.row a.cells 42 false)) (K:Value→Heap→Prop) (hk:∀ h',Ext h h'→K (.int .i64 (iu d a)) h'):Ok Tryz.prog ae ov 89 [.pointer (some ⟨A,0,none⟩),.pointer (some ⟨B,0,none⟩)] h K:=by
 rw [ao h]
 have z:=Ext.refl h
 refine Ok.aD rfl zAG (br N89) rfl (m:=4) rfl ?_
 simp -implicitDefEqProofs only [syms,aa,seval,c89,q0.lay,q1.lay,eQ,↓im,gP,gk,eW,↓ff,eR,dQ]
 refine Zy d a _ _ _ _ _ _ _ _ (cA.lay _ _) bw (h0.lay _ _) (h1.lay _ _) hs _ (fun h' x=>?_)
 (replace z:=z.an x (by omega);rw [ao h'])
 simp -implicitDefEqProofs only [syms,aa,seval,c89]
 exact hk _ (z.aw _ _ (by omega))
theorem zw0 (d:au) (s:ByteArray) (a:ab) (p0 p1 p2 p5 p6:Value) (q b:Int) (h:Heap) (cA:aY 1 h) (bw:(dw p0 p1 p2 p5 p6 q b).all Am.one=true) (h0:Sl aK.str h p0 d.aj) (h1:Sl aK.pred h p1 d.bA) (hs:d.aj.length≤1000) (K:Value→Heap→Prop) (hk:∀ h',Ext h h'→K (.int .i64 (gl d s a)) h'):Ok Tryz.prog ae ov 60 [gQ p0 p1 p2 p5 p6 q b,.string s,a.val] h K:=by
 rw [ao h]
 have z:=Ext.refl h
 have dF:=lD
 refine Ok.aD rfl zAd (br N60) rfl (m:=21) rfl ?_
 simp -implicitDefEqProofs only [syms,aa,seval,qG,eQ,eW]
 refine lG (fun h' x hq=>?_)
 have q0:=hq 0 _ rfl
 have q1:=hq 1 _ rfl
 clear hq
 (replace z:=z.an x (by omega);rw [ao h'])
 obtain ⟨A0,dS⟩:∃ A0,A0=h.size+0:=⟨_,rfl⟩
 rw [← dS] at q0
 rw [← dS]
 obtain ⟨A1,mb⟩:∃ A1,A1=h.size+1:=⟨_,rfl⟩
 rw [← mb] at q1
 rw [← mb]
 with_reducible first|refine eu (by simp only [qG]) (z.aw _ _ (by omega)) ?_
 simp -implicitDefEqProofs only [syms,aa,seval,qG,q0.lay,q1.lay,eQ,↓im,gP,gk,dF]
 refine LP d.aj s _ _ _ _ _ _ _ _ ((h0.mono z.inc).lay _ _) hs _ (fun h' x=>?_)
 (((with_reducible refine dK ?_ ?_ ?_);(· exact (by (simp only [dM]);have:=z.size;omega));(· exact x));replace z:=z.an x (by omega);(replace q0:=q0.over x);(replace q1:=q1.over x);rw [ao h'])
 simp -implicitDefEqProofs only [syms,aa,seval,qG]
 (with_reducible_and_instances apply cm);(· rfl)
 simp -implicitDefEqProofs only [syms,aa,seval,qG]
 refine lS _ _ _ _ (fun h' f1 x r1=>?_)
 (((with_reducible refine dK ?_ ?_ ?_);(· exact (by (simp only [dM]);have:=z.size;omega));(· exact x));replace z:=z.an x (by omega);(replace q0:=q0.over x);(replace q1:=q1.over x);rw [ao h'])
 simp -implicitDefEqProofs only [syms,aa,seval,qG,q0.lay,q1.lay,↓ff,eR,dQ,BJ,dF]
 refine zt5 a _ _ (fun h' x=>?_)
 (((with_reducible refine dK ?_ ?_ ?_);(· exact (by (simp only [dM]);have:=z.size;omega));(· exact x));replace z:=z.an x (by omega);(replace q0:=q0.over x);(replace q1:=q1.over x);(replace r1:=r1.over x);rw [ao h'])
 simp -implicitDefEqProofs only [syms,aa,seval,qG]
 (with_reducible_and_instances apply cm);(· rfl)
 simp -implicitDefEqProofs only [syms,aa,seval,qG]
 refine lS _ _ _ _ (fun h' f2 x r2=>?_)
 (((with_reducible refine dK ?_ ?_ ?_);(· exact (by (simp only [dM]);have:=z.size;omega));(· exact x));replace z:=z.an x (by omega);(replace q0:=q0.over x);(replace q1:=q1.over x);(replace r1:=r1.over x);rw [ao h'])
 simp -implicitDefEqProofs only [syms,aa,seval,qG,q0.lay,q1.lay,BJ,dF]
 rw [wg]
 simp -implicitDefEqProofs only [syms,aa,seval,qG]
 refine lS _ _ _ _ (fun h' f3 x r3=>?_)
 (((with_reducible refine dK ?_ ?_ ?_);(· exact (by (simp only [dM]);have:=z.size;omega));(· exact x));replace z:=z.an x (by omega);(replace q0:=q0.over x);(replace q1:=q1.over x);(replace r1:=r1.over x);(replace r2:=r2.over x);rw [ao h'])
 have r0:eK h' (.func (.func 89) ⟨[]⟩ ⟨[.pointer (some ⟨A0,0,none⟩),.pointer (some ⟨A1,0,none⟩)]⟩) (iu d a):=⟨⟨_,_,_,rfl⟩,fun hc K2 y fp=>by
  rw [vW]
  exact zwZ d a _ _ _ _ _ _ _ A0 A1 hc (Holds.fD (cA.ext z) y) bw ((h0.mono z.inc).mono y.all) ((h1.mono z.inc).mono y.all) hs (Holds.fD q0 y) (Holds.fD q1 y) K2 fp⟩
 rw [show decide (a.says≠s) = !decide (a.says=s) by simp] at r3
 obtain ⟨g1,u1,v1,rfl⟩:=r1.1
 obtain ⟨g2,u2,v2,rfl⟩:=r2.1
 obtain ⟨g3,u3,v3,rfl⟩:=r3.1
 simp -implicitDefEqProofs only [syms,aa,seval,qG]
 refine Ep (by have:=z.size;omega) (by omega) ?_
 simp -implicitDefEqProofs only [syms,aa,seval,qG]
 refine wh [.func g1 u1 v1,.func (.func 89) ⟨[]⟩ ⟨[.pointer (some ⟨A0,0,none⟩),.pointer (some ⟨A1,0,none⟩)]⟩,.func g2 u2 v2,.func g3 u3 v3] [aX (!bg d.aj s) 6,iu d a,aX (!a.ground) 10,aX (!decide (a.says=s)) 11] _ _ (wx (i:=0) rfl rfl rfl (by simp)) (by simp) rfl (fun i fv e h1 h2=>?_) _ (fun h' x=>?_)
 ·match i,h1,h2 with
  |0,h1,h2=>cases h1;cases h2;exact r1.lay _ _
  |1,h1,h2=>cases h1;cases h2;exact r0.lay _ _
  |2,h1,h2=>cases h1;cases h2;exact r2.lay _ _
  |3,h1,h2=>cases h1;cases h2;exact r3.lay _ _
 (((with_reducible refine dK ?_ ?_ ?_);(· exact (by (simp only [dM]);have:=z.size;omega));(· exact x));replace z:=z.an x (by omega);(replace q0:=q0.over x);(replace q1:=q1.over x);(replace r1:=r1.over x);(replace r2:=r2.over x);(replace r3:=r3.over x);rw [ao h'])
 simp -implicitDefEqProofs only [syms,aa,seval,qG]
 ((with_reducible refine ⟨z.cW.lay _ _,?_⟩);(intro _ h' zz x _);(simp only [cq,List.append_nil] at x);(replace q0:=q0.over x);(replace q1:=q1.over x);(replace r1:=r1.over x);(replace r2:=r2.over x);(replace r3:=r3.over x);(replace z:=zz);(clear zz);rw [ao h'])
 simp -implicitDefEqProofs only [syms,aa,seval,qG]
 exact hk _ (z.aw _ _ (by omega))
end Go.Proofs.YtdplfgoifjjniaaGreatDoor
