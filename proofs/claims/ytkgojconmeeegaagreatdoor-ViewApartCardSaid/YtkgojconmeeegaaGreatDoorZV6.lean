/- Walks: what is gone through of a policy, all bounds. Written out by fill2.py. No condition. -/
import Derived.Test.YtkgojconmeeegaaGreatDoorG23
set_option linter.unusedSimpArgs false
set_option linter.unusedVariables false
namespace Go.Proofs.YtkgojconmeeegaaGreatDoor
open Go.Am
set_option maxRecDepth 100000
set_option maxHeartbeats 0
theorem zjK (d:au) (p0 p1 p2 p5 p6:Value) (q b:Int) (h:Heap) (hd:dD h p0 p1 p2 p5 p6 d) (K:Value→Heap→Prop) (qh:d.ah.length≤70→d.bG.length≤70→d.aF.length≤70→(∀ c∈d.aF,c.reads.length≤40)→d.rules.length≤70→(∀ r∈d.rules,r.body.length≤9)→d.bo.length≤70→(∀ g∈d.bo,g.body.length≤9)→∀ h',Ext h h'→K (.bool true) h') (jU:∀ h',Ext h h'→K (.bool false) h'):Ok Tryz.prog ae ov 6 [gi p0 p1 p2 p5 p6 q b] h K:=by
 rw [ao h]
 have z:=Ext.refl h
 have nL:=bY p0
 have kg:=bY p1
 have jI:=bY p2
 have ji:=bY p5
 have kG:=bY p6
 have fT:=fun (hh:Heap)=>hd.s1.bc jS hh
 have hU:=fun (hh:Heap)=>hd.s2.bc jT hh
 have mO:=fun (hh:Heap)=>hd.s5.bc my hh
 have lQ:=fun (hh:Heap)=>hd.s6.bc nE hh
 refine Ok.aH rfl zGT (br N6) rfl (m:=134) rfl ?_
 repeat' (simp only [syms,aa,seval,c6,ek,dY,eK,fN,gB,gN,nL,kg,jI,ji,kG,fT,hU,mO,lQ])
 refine zhf d.ah p0 70 6000 _ (hd.s0.lay _ _) _ (fun e0 h' x=>?_) (fun h' x=>?_)
 rotate_left
 ·have q0:=Holds.top (i:=0) x rfl
  (replace z:=z.an x (by omega);rw [ao h'])
  repeat' (first|simp only [syms,aa,seval,c6,Bool.not_false]|((with_reducible_and_instances apply b8);(· rfl)))
  exact jU _ (z.aw _ _ (by omega))
 have q0:=Holds.top (i:=0) x rfl
 (replace z:=z.an x (by omega);rw [ao h'])
 obtain ⟨A0,dZ⟩:∃ A0,A0=h.size+0:=⟨_,rfl⟩
 rw [← dZ] at q0
 rw [← dZ]
 repeat' (first|simp only [syms,aa,seval,c6,q0.lay,dY,eK,fN,gB,gN,nL,kg,jI,ji,kG,fT,hU,mO,lQ,Bool.not_true]|((with_reducible apply bt) <;> intro _)|((with_reducible_and_instances apply b8);(· rfl)))
 iterate 4 (· exact jU _ (z.aw _ _ (by omega)))
 have e1:d.bG.length≤70:=by omega
 have e2:d.aF.length≤70:=by omega
 have e5:d.rules.length≤70:=by omega
 have e6:d.bo.length≤70:=by omega
 obtain ⟨I1,aS⟩:∃ I:Nat→Env→Heap→Prop,I=(fun n e h'=>∃ (i:Nat) (h1:Heap),h'=h1.lay [] h1.low∧Ext h h1∧(n=d.bG.length - i∧i≤d.bG.length∧Holds h1 A0 (.row (cX p0 p1 p2 p5 p6 q b) 28 false))∧∃ J:Nat→Value,e=(J 0::.pointer (some ⟨A0,0,none⟩)::J 2::.int .i64 i::jr J 4 131 ([]))):=⟨_,rfl⟩
 refine dj I1 _ (by rw [aS];exact ⟨0,_,rfl,z,⟨rfl,by omega,q0⟩,aE (by kernel_rfl)⟩) ?_
 intro n e h' aL
 rw [aS] at aL
 obtain ⟨i,bH,rfl,z,hinv,J,rfl⟩:=aL
 clear q0
 obtain ⟨rfl,hi,q0⟩:=hinv
 have hw:=eb i (by omega)
 simp only [syms,aa,seval,c6,q0.lay,dY,eK,fN,gB,gN,nL,kg,jI,ji,kG,fT,hU,mO,lQ,Bool.not_true]
 refine bt (fun aR=>?_) (fun aR=>?_)
 ·obtain ⟨r,hr,bz⟩:=eU (l:=d.bG) (i:=i) (by omega)
  repeat' (first|simp only [syms,aa,seval,c6,q0.lay,dY,eK,fN,gB,gN,nL,kg,jI,ji,kG,fT,hU,mO,lQ,Bool.not_true]|((with_reducible apply bt) <;> intro _)|with_reducible_and_instances refine Sh (hd.s1.mono z.inc) jS lq (by omega) hr (fun p hp=>?_)|with_reducible_and_instances refine wj hp HY (fun q hq=>?_)|with_reducible_and_instances refine hY hq kc ?_)
  ·exact jU _ (z.aw _ _ (by omega))
  rw [hw]
  (rw [aS];with_reducible refine cB (m:=_) ?_ ⟨i+1,_,rfl,z,⟨rfl,by omega,q0⟩,aE (by kernel_rfl)⟩;omega)
 clear hi aR hw
 simp only [syms,aa,seval,c6,q0.lay,dY,eK,fN,gB,gN,nL,kg,jI,ji,kG,fT,hU,mO,lQ,Bool.not_true]
 obtain ⟨I2,fM⟩:∃ I:Nat→Env→Heap→Prop,I=(fun n e h'=>∃ (i:Nat) (h1:Heap),h'=h1.lay [] h1.low∧Ext h h1∧(n=d.aF.length - i∧i≤d.aF.length∧(∀ c∈d.aF.take i,c.reads.length≤40)∧Holds h1 A0 (.row (cX p0 p1 p2 p5 p6 q b) 28 false))∧∃ J:Nat→Value,e=(J 0::.pointer (some ⟨A0,0,none⟩)::jr J 2 2 (.int .i64 i::jr J 5 130 ([])))):=⟨_,rfl⟩
 refine dj I2 _ (by rw [fM];exact ⟨0,_,rfl,z,⟨rfl,by omega,by simp,q0⟩,aE (by kernel_rfl)⟩) ?_
 intro n e h' aL
 rw [fM] at aL
 obtain ⟨i,bH,rfl,z,hinv,J,rfl⟩:=aL
 clear q0
 obtain ⟨rfl,hi,aB,q0⟩:=hinv
 have hw:=eb i (by omega)
 simp only [syms,aa,seval,c6,q0.lay,dY,eK,fN,gB,gN,nL,kg,jI,ji,kG,fT,hU,mO,lQ,Bool.not_true]
 refine bt (fun aR=>?_) (fun aR=>?_)
 ·obtain ⟨r,hr,bz⟩:=eU (l:=d.aF) (i:=i) (by omega)
  repeat' (first|simp only [syms,aa,seval,c6,q0.lay,dY,eK,fN,gB,gN,nL,kg,jI,ji,kG,fT,hU,mO,lQ,Bool.not_true]|((with_reducible apply bt) <;> intro _)|with_reducible_and_instances refine Df (hd.s2.mono z.inc) jT jD (by omega) hr (fun p b hb hp=>?_)|with_reducible_and_instances refine wj hp Db (fun q hq=>?_)|with_reducible_and_instances refine hY hq kc ?_|with_reducible_and_instances refine FJ hp Kh (fun q hq=>?_)|with_reducible_and_instances refine hY hq zp ?_)
  ·exact jU _ (z.aw _ _ (by omega))
  refine zhf r.reads _ 40 3000 _ (hb.lay _ _) _ (fun er h' x=>?_) (fun h' x=>?_)
  rotate_left
  ·(replace z:=z.an x (by omega);( replace q0:=q0.over x );rw [ao h'])
   repeat' (first|simp only [syms,aa,seval,c6,Bool.not_false]|((with_reducible_and_instances apply b8);(· rfl)))
   exact jU _ (z.aw _ _ (by omega))
  (replace z:=z.an x (by omega);(replace q0:=q0.over x);rw [ao h'])
  repeat' (first|simp only [syms,aa,seval,c6,Bool.not_true]|((with_reducible_and_instances apply b8);(· rfl)))
  rw [hw]
  (rw [fM];with_reducible refine cB (m:=_) ?_ ⟨i+1,_,rfl,z,⟨rfl,by omega,oC (i:=i) (P:=fun c:aZ=>c.reads.length≤40) bz aB (by omega),q0⟩,aE (by kernel_rfl)⟩;omega)
 rw [List.take_of_length_le (by omega)] at aB
 clear hi aR hw
 simp only [syms,aa,seval,c6,q0.lay,dY,eK,fN,gB,gN,nL,kg,jI,ji,kG,fT,hU,mO,lQ,Bool.not_true]
 obtain ⟨I3,mF⟩:∃ I:Nat→Env→Heap→Prop,I=(fun n e h'=>∃ (i:Nat) (h1:Heap),h'=h1.lay [] h1.low∧Ext h h1∧(n=d.rules.length - i∧i≤d.rules.length∧(∀ r∈d.rules.take i,r.body.length≤9)∧Holds h1 A0 (.row (cX p0 p1 p2 p5 p6 q b) 28 false))∧∃ J:Nat→Value,e=(J 0::.pointer (some ⟨A0,0,none⟩)::jr J 2 3 (.int .i64 i::jr J 6 129 ([])))):=⟨_,rfl⟩
 refine dj I3 _ (by rw [mF];exact ⟨0,_,rfl,z,⟨rfl,by omega,by simp,q0⟩,aE (by kernel_rfl)⟩) ?_
 intro n e h' aL
 rw [mF] at aL
 obtain ⟨i,bH,rfl,z,hinv,J,rfl⟩:=aL
 clear q0
 obtain ⟨rfl,hi,wD,q0⟩:=hinv
 have hw:=eb i (by omega)
 simp only [syms,aa,seval,c6,q0.lay,dY,eK,fN,gB,gN,nL,kg,jI,ji,kG,fT,hU,mO,lQ,Bool.not_true]
 refine bt (fun aR=>?_) (fun aR=>?_)
 ·obtain ⟨r,hr,bz⟩:=eU (l:=d.rules) (i:=i) (by omega)
  repeat' (first|simp only [syms,aa,seval,c6,q0.lay,dY,eK,fN,gB,gN,nL,kg,jI,ji,kG,fT,hU,mO,lQ,Bool.not_true]|with_reducible_and_instances refine Si (hd.s5.mono z.inc) my px (by omega) hr (fun p b hb hp=>?_)|with_reducible_and_instances refine FL hp HZ (fun q hq=>?_)|with_reducible_and_instances refine mW hq fx bO ?_)
  refine Xr r.head _ _ (fun oc h' x=>?_) (fun oc h' x=>?_)
  rotate_left
  ·(replace z:=z.an x (by omega);( replace q0:=q0.over x );rw [ao h'])
   repeat' (first|simp only [syms,aa,seval,c6,Bool.not_false]|((with_reducible_and_instances apply b8);(· rfl)))
   exact jU _ (z.aw _ _ (by omega))
  (replace z:=z.an x (by omega);(replace q0:=q0.over x);rw [ao h'])
  repeat' (first|simp only [syms,aa,seval,c6,q0.lay,dY,eK,fN,gB,gN,nL,kg,jI,ji,kG,fT,hU,mO,lQ,Bool.not_true]|with_reducible_and_instances refine Si (hd.s5.mono z.inc) my px (by omega) hr (fun p b hb hp=>?_)|with_reducible_and_instances refine FN hp H2 (fun q hq=>?_)|with_reducible_and_instances refine hY hq rG ?_|((with_reducible_and_instances apply b8);(· rfl)))
  refine zou r.body _ 9 _ (Sl.mono (by assumption) (cn.lay _ _ _)) _ (fun hb9 _ h' x=>?_) (fun h' x=>?_)
  rotate_left
  ·(replace z:=z.an x (by omega);( replace q0:=q0.over x );rw [ao h'])
   repeat' (first|simp only [syms,aa,seval,c6,Bool.not_false]|((with_reducible_and_instances apply b8);(· rfl)))
   exact jU _ (z.aw _ _ (by omega))
  (replace z:=z.an x (by omega);(replace q0:=q0.over x);rw [ao h'])
  repeat' (first|simp only [syms,aa,seval,c6,Bool.not_true]|((with_reducible_and_instances apply b8);(· rfl)))
  rw [hw]
  (rw [mF];with_reducible refine cB (m:=_) ?_ ⟨i+1,_,rfl,z,⟨rfl,by omega,oC (i:=i) (P:=fun r:bZ=>r.body.length≤9) bz wD (by omega),q0⟩,aE (by kernel_rfl)⟩;omega)
 rw [List.take_of_length_le (by omega)] at wD
 clear hi aR hw
 simp only [syms,aa,seval,c6,q0.lay,dY,eK,fN,gB,gN,nL,kg,jI,ji,kG,fT,hU,mO,lQ,Bool.not_true]
 obtain ⟨I4,FZ⟩:∃ I:Nat→Env→Heap→Prop,I=(fun n e h'=>∃ (i:Nat) (h1:Heap),h'=h1.lay [] h1.low∧Ext h h1∧(n=d.bo.length - i∧i≤d.bo.length∧(∀ g∈d.bo.take i,g.body.length≤9)∧Holds h1 A0 (.row (cX p0 p1 p2 p5 p6 q b) 28 false))∧∃ J:Nat→Value,e=(J 0::.pointer (some ⟨A0,0,none⟩)::jr J 2 4 (.int .i64 i::jr J 7 128 ([])))):=⟨_,rfl⟩
 refine dj I4 _ (by rw [FZ];exact ⟨0,_,rfl,z,⟨rfl,by omega,by simp,q0⟩,aE (by kernel_rfl)⟩) ?_
 intro n e h' aL
 rw [FZ] at aL
 obtain ⟨i,bH,rfl,z,hinv,J,rfl⟩:=aL
 clear q0
 obtain ⟨rfl,hi,wC,q0⟩:=hinv
 have hw:=eb i (by omega)
 simp only [syms,aa,seval,c6,q0.lay,dY,eK,fN,gB,gN,nL,kg,jI,ji,kG,fT,hU,mO,lQ,Bool.not_true]
 refine bt (fun aR=>?_) (fun aR=>?_)
 rotate_left
 ·rw [List.take_of_length_le (by omega)] at wC
  repeat' (simp only [syms,aa,seval,c6])
  exact qh (by omega) e1 e2 aB e5 wD e6 wC _ (z.aw _ _ (by omega))
 obtain ⟨r,hr,bz⟩:=eU (l:=d.bo) (i:=i) (by omega)
 repeat' (first|simp only [syms,aa,seval,c6,q0.lay,dY,eK,fN,gB,gN,nL,kg,jI,ji,kG,fT,hU,mO,lQ,Bool.not_true]|((with_reducible apply bt) <;> intro _)|with_reducible_and_instances refine XO (hd.s6.mono z.inc) nE nP (by omega) hr (fun p b hb hp=>?_)|with_reducible_and_instances refine Z6 hp XM (fun q hq=>?_)|with_reducible_and_instances refine hY hq kc ?_|with_reducible_and_instances refine Z7 hp Ss (fun q hq=>?_)|with_reducible_and_instances refine mW hq fx bO ?_)
 ·exact jU _ (z.aw _ _ (by omega))
 refine Xr r.head _ _ (fun oc h' x=>?_) (fun oc h' x=>?_)
 rotate_left
 ·(replace z:=z.an x (by omega);( replace q0:=q0.over x );rw [ao h'])
  repeat' (first|simp only [syms,aa,seval,c6,Bool.not_false]|((with_reducible_and_instances apply b8);(· rfl)))
  exact jU _ (z.aw _ _ (by omega))
 (replace z:=z.an x (by omega);(replace q0:=q0.over x);rw [ao h'])
 repeat' (first|simp only [syms,aa,seval,c6,q0.lay,dY,eK,fN,gB,gN,nL,kg,jI,ji,kG,fT,hU,mO,lQ,Bool.not_true]|with_reducible_and_instances refine XO (hd.s6.mono z.inc) nE nP (by omega) hr (fun p b hb hp=>?_)|with_reducible_and_instances refine Z8 hp XN (fun q hq=>?_)|with_reducible_and_instances refine hY hq rG ?_|((with_reducible_and_instances apply b8);(· rfl)))
 refine zou r.body _ 9 _ (Sl.mono (by assumption) (cn.lay _ _ _)) _ (fun hb9 _ h' x=>?_) (fun h' x=>?_)
 rotate_left
 ·(replace z:=z.an x (by omega);( replace q0:=q0.over x );rw [ao h'])
  repeat' (first|simp only [syms,aa,seval,c6,Bool.not_false]|((with_reducible_and_instances apply b8);(· rfl)))
  exact jU _ (z.aw _ _ (by omega))
 (replace z:=z.an x (by omega);(replace q0:=q0.over x);rw [ao h'])
 repeat' (first|simp only [syms,aa,seval,c6,Bool.not_true]|((with_reducible_and_instances apply b8);(· rfl)))
 rw [hw]
 (rw [FZ];with_reducible refine cB (m:=_) ?_ ⟨i+1,_,rfl,z,⟨rfl,by omega,oC (i:=i) (P:=fun g:dV=>g.body.length≤9) bz wC (by omega),q0⟩,aE (by kernel_rfl)⟩;omega)
end Go.Proofs.YtkgojconmeeegaaGreatDoor
