/- Walks: what is gone through, on; lists of one's own. Written out by fill2.py. No condition. -/
import Derived.Test.YtdplfgoifjjniaaGreatDoorG42
set_option linter.unusedSimpArgs false
set_option linter.unusedVariables false
set_option maxRecDepth 100000
set_option maxHeartbeats 0
namespace Go.Proofs.YtdplfgoifjjniaaGreatDoor
open Go.Am
def wB (n m:Int):Int:=if m < 1 then 0 else if n.tmod m < 0 then n.tmod m+m else n.tmod m
theorem zxg (n m:Int) (hm:1≤m):0≤wB n m∧wB n m < m:=by
 unfold wB
 rw [if_neg (by omega)]
 have h1:=Int.tmod_lt_of_pos n (show 0 < m by omega)
 have h2:=Int.lt_tmod_of_pos n (show 0 < m by omega)
 split <;> omega
theorem zCV (n m:Int) (h:Heap) (K:Value→Heap→Prop) (hm:m≤4611686018427387904) (hk:K (.int .i64 (wB n m)) h):Ok Tryz.prog ae ov 9 [.int .i64 n,.int .i64 m] h K:=by
 refine Ok.aD rfl zDd (br N9) rfl (m:=15) rfl ?_
 simp -implicitDefEqProofs only [syms,aa,seval,c9]
 refine bp (fun c=>?_) (fun c=>?_)
 ·simp -implicitDefEqProofs only [syms,aa,seval,c9]
  have:wB n m=0:=by unfold wB;rw [if_pos c]
  rw [this] at hk
  exact hk
 have hb:=zxg n m (by omega)
 have hd:wB n m=if n.tmod m < 0 then n.tmod m+m else n.tmod m:=by unfold wB;rw [if_neg c]
 simp -implicitDefEqProofs only [syms,aa,seval,c9]
 rw [zBR (by omega)]
 simp -implicitDefEqProofs only [syms,aa,seval,c9]
 refine bp (fun c2=>?_) (fun c2=>?_)
 ·rw [if_pos c2] at hd
  rw [hd] at hk hb
  simp -implicitDefEqProofs only [syms,aa,seval,c9]
  rw [wrap_i64 (by omega) (by omega)]
  exact hk
 ·rw [if_neg c2] at hd
  rw [hd] at hk
  simp -implicitDefEqProofs only [syms,aa,seval,c9]
  exact hk
noncomputable def N18:=bq Tryz.f18
noncomputable def LF:=PLift.up (by have c:=bu N18 Tryz.f18;simp only [aE,Tryz.f18,seval] at c;exact nd c <| nd @sk <| nd @GL <| nd @xH <| nd @b9 <| nd @gf <| nd @xP <| nd @xQ <| @TS)
theorem Cl:type_of% LF.down:=LF.down
noncomputable def N5:=bq Tryz.f5
noncomputable def x5:=PLift.up (by have c:=bu N5 Tryz.f5;simp only [aE,Tryz.f5,seval] at c;exact nd c <| nd @Bz <| nd @sk <| nd @je <| nd @xH <| nd @kL <| nd @eO <| nd @Xi <| nd @gf <| nd @jg <| nd @xP <| @fi5)
theorem c5:type_of% x5.down:=x5.down
noncomputable def N4:=bq Tryz.f4
noncomputable def x4:=PLift.up (by have c:=bu N4 Tryz.f4;simp only [aE,Tryz.f4,seval] at c;exact nd c <| nd @ri <| nd @ztq <| nd @sk <| nd @GL <| nd @xH <| nd @eO <| nd @kV <| nd @b9 <| nd @gf <| nd @xP <| nd @xQ <| @fi4)
theorem c4:type_of% x4.down:=x4.down
noncomputable def N3:=bq Tryz.f3
noncomputable def x3:=PLift.up (by have c:=bu N3 Tryz.f3;simp only [aE,Tryz.f3,seval] at c;exact nd c <| nd @B7 <| nd @pQ <| nd @GK <| nd @eO <| nd @kV <| @fi3)
theorem c3:type_of% x3.down:=x3.down
noncomputable def N6:=bq Tryz.f6
noncomputable def x6:=PLift.up (by have c:=bu N6 Tryz.f6;simp only [aE,Tryz.f6,seval] at c;exact nd c <| nd @Bz <| nd @GK <| nd @ri <| nd @ztq <| nd @sk <| nd @GL <| nd @je <| nd @xH <| nd @jf <| nd @kL <| nd @eO <| nd @kV <| nd @b9 <| nd @gf <| nd @jg <| nd @xP <| nd @ia <| @fi6)
theorem c6:type_of% x6.down:=x6.down
noncomputable def N13:=bq Tryz.f13
noncomputable def X3:=PLift.up (by have c:=bu N13 Tryz.f13;simp only [aE,Tryz.f13,seval] at c;exact nd c <| @TN)
noncomputable def N12:=bq Tryz.f12
noncomputable def X2:=PLift.up (by have c:=bu N12 Tryz.f12;simp only [aE,Tryz.f12,seval] at c;exact nd c <| nd @B9 <| nd @EJ <| nd @wq <| nd @je <| nd @oT <| nd @b9 <| nd @gf <| nd @jg <| @TM)
noncomputable def N8:=bq Tryz.f8
noncomputable def x8:=PLift.up (by have c:=bu N8 Tryz.f8;simp only [aE,Tryz.f8,seval] at c;exact nd c <| nd @B7 <| nd @pQ <| nd @Ib <| nd @Te <| nd @Tf <| nd @Tg <| nd @Cb <| nd @fi8 <| @eO)
theorem zqv (k:Int):(wB k 2=0)↔k.tmod 2=0:=by
 unfold wB
 rw [if_neg (by omega)]
 have h1:=Int.tmod_lt_of_pos k (show (0:Int) < 2 by omega)
 have h2:=Int.lt_tmod_of_pos k (show (0:Int) < 2 by omega)
 split <;> omega
theorem znq (l:List jq) (v:Value) (h:Heap) (hl:Sl aK.act h v l) (K:Value→Heap→Prop)
 (tK:l.length≤60→(∀ c∈l,c.s.size≤300∧c.a.ba=true)→∀ h',Ext h h'→K (.bool true) h') (kB:∀ h',Ext h h'→K (.bool false) h'):Ok Tryz.prog ae ov 18 [v] h K:=by
 rw [ao h]
 have z:=Ext.refl h
 have gN:=cJ v
 have cp:=fun (hh:Heap)=>hl.bd jw hh
 refine Ok.aD rfl zzA (br N18) rfl (m:=28) rfl ?_
 simp -implicitDefEqProofs only [syms,aa,seval,Cl]
 obtain ⟨I1,aR⟩:∃ I:Nat→Env→Heap→Prop,I=(fun n e h'=>∃ (i:Nat) (h1:Heap),h'=h1.lay [] h1.low∧Ext h h1∧(n=l.length - i∧i≤l.length∧(∀ c∈l.take i,c.s.size≤300∧c.a.ba=true))∧∃ J:Nat→Value,e=(v::jr J 1 2 (.int .i64 i::jr J 4 25 ([])))):=⟨_,rfl⟩
 refine dg I1 _ (by rw [aR];exact ⟨0,_,rfl,z,⟨rfl,by omega,by simp⟩,aB (by kernel_rfl)⟩) ?_
 intro n e h' aH
 rw [aR] at aH
 obtain ⟨i,bE,rfl,z,hinv,J,rfl⟩:=aH
 obtain ⟨rfl,hi,az⟩:=hinv
 have hle:=hl.le
 simp -implicitDefEqProofs only [syms,aa,seval,Cl,gN,cp]
 refine bp (fun aS=>?_) (fun lr=>?_)
 ·obtain ⟨r,hr,bo⟩:=eP (l:=l) (i:=i) (by omega)
  have gO:IntKind.i64.wrap ((i:Int)+1)=((i+1:Nat):Int):=by unfold maxLen at hle;rw [wrap_i64 (by omega) (by omega)];omega
  simp -implicitDefEqProofs only [syms,aa,seval,Cl,gN]
  repeat' ((first|((with_reducible apply bp) <;> intro _)|with_reducible_and_instances refine wA (hl.mono z.inc) jw kN (by omega) hr (fun p hp=>?_)|with_reducible_and_instances refine zW hp sk (fun qq hq=>?_)|with_reducible_and_instances refine fX hq gU ?_|with_reducible_and_instances refine ztu hp GL (fun qq hq=>?_)|with_reducible_and_instances refine mM hq fw bS ?_|((with_reducible_and_instances refine Pe _ _ _ (fun FG h' x=>?_) (fun FG h' x=>?_)) <;> (replace z:=z.an x (by omega);rw [ao h']))|((with_reducible_and_instances apply cm);(· rfl))) <;> simp -implicitDefEqProofs only [syms,aa,seval,Cl,gN])
  all_goals first
   |exact kB _ (z.aw _ _ (by omega))
   |(rw [gO]
     (rw [aR];with_reducible refine cz (m:=_) ?_ ⟨i+1,_,rfl,z,⟨rfl,by omega,pf (i:=i) (P:=fun c:jq=>c.s.size≤300∧c.a.ba=true) bo az ⟨by omega,FG⟩⟩,aB (by kernel_rfl)⟩;omega))
 ·rw [List.take_of_length_le (by omega)] at az
  simp -implicitDefEqProofs only [syms,aa,seval,Cl,gN,cp]
  refine bp (fun hle=>?_) (fun qd=>?_)
  ·simp -implicitDefEqProofs only [syms,aa,seval,Cl]
   exact tK (by omega) az _ (z.aw _ _ (by omega))
  ·simp -implicitDefEqProofs only [syms,aa,seval,Cl]
   exact kB _ (z.aw _ _ (by omega))
theorem ziX (d:au) (p0 p1 p2 p5 p6:Value) (q b:Int) (h:Heap) (hd:fO h p0 p1 p2 p5 p6 d) (K:Value→Heap→Prop) (tK:d.aj.length≤70→d.bA.length≤70→d.aV.length≤70→(∀ c∈d.aV,c.reads.length≤40)→d.rules.length≤70→(∀ r∈d.rules,r.body.length≤9)→d.bc.length≤70→(∀ g∈d.bc,g.body.length≤9)→∀ h',Ext h h'→K (.bool true) h') (kB:∀ h',Ext h h'→K (.bool false) h'):Ok Tryz.prog ae ov 17 [gQ p0 p1 p2 p5 p6 q b] h K:=by
 rw [ao h]
 have z:=Ext.refl h
 have jF:=cJ p0
 have jO:=cJ p1
 have kH:=cJ p2
 have jP:=cJ p5
 have kJ:=cJ p6
 have eN:=fun (hh:Heap)=>hd.s1.bd iY hh
 have fT:=fun (hh:Heap)=>hd.s2.bd ky hh
 have lu:=fun (hh:Heap)=>hd.s5.bd kA hh
 have kG:=fun (hh:Heap)=>hd.s6.bd k9 hh
 refine Ok.aD rfl zzz (br N17) rfl (m:=134) rfl ?_
 repeat' (simp -implicitDefEqProofs only [syms,aa,seval,kr,eQ,dy,eo,fV,fH,fW,jF,jO,kH,jP,kJ,eN,fT,lu,kG])
 refine zgK d.aj p0 70 6000 _ (hd.s0.lay _ _) _ (fun e0 h' x=>?_) (fun h' x=>?_)
 rotate_left
 ·have q0:=Holds.top (i:=0) x rfl
  (replace z:=z.an x (by omega);rw [ao h'])
  repeat' (first|simp -implicitDefEqProofs only [syms,aa,seval,kr,Bool.not_false]|((with_reducible_and_instances apply cm);(· rfl)))
  exact kB _ (z.aw _ _ (by omega))
 have q0:=Holds.top (i:=0) x rfl
 (replace z:=z.an x (by omega);rw [ao h'])
 obtain ⟨A0,dS⟩:∃ A0,A0=h.size+0:=⟨_,rfl⟩
 rw [← dS] at q0
 rw [← dS]
 repeat' (first|simp -implicitDefEqProofs only [syms,aa,seval,kr,q0.lay,dy,eo,fV,fH,fW,jF,jO,kH,jP,kJ,eN,fT,lu,kG,Bool.not_true]|((with_reducible apply bp) <;> intro _)|((with_reducible_and_instances apply cm);(· rfl)))
 iterate 4 (· exact kB _ (z.aw _ _ (by omega)))
 have e1:d.bA.length≤70:=by omega
 have e2:d.aV.length≤70:=by omega
 have e5:d.rules.length≤70:=by omega
 have e6:d.bc.length≤70:=by omega
 obtain ⟨I1,aR⟩:∃ I:Nat→Env→Heap→Prop,I=(fun n e h'=>∃ (i:Nat) (h1:Heap),h'=h1.lay [] h1.low∧Ext h h1∧(n=d.bA.length - i∧i≤d.bA.length∧Holds h1 A0 (.row (dw p0 p1 p2 p5 p6 q b) 29 false))∧∃ J:Nat→Value,e=(J 0::.pointer (some ⟨A0,0,none⟩)::J 2::.int .i64 i::jr J 4 131 ([]))):=⟨_,rfl⟩
 refine dg I1 _ (by rw [aR];exact ⟨0,_,rfl,z,⟨rfl,by omega,q0⟩,aB (by kernel_rfl)⟩) ?_
 intro n e h' aH
 rw [aR] at aH
 obtain ⟨i,bE,rfl,z,hinv,J,rfl⟩:=aH
 clear q0
 obtain ⟨rfl,hi,q0⟩:=hinv
 have hw:=eg i (by omega)
 simp -implicitDefEqProofs only [syms,aa,seval,kr,q0.lay,dy,eo,fV,fH,fW,jF,jO,kH,jP,kJ,eN,fT,lu,kG,Bool.not_true]
 refine bp (fun aS=>?_) (fun aS=>?_)
 ·obtain ⟨r,hr,bo⟩:=eP (l:=d.bA) (i:=i) (by omega)
  repeat' (first|simp -implicitDefEqProofs only [syms,aa,seval,kr,q0.lay,dy,eo,fV,fH,fW,jF,jO,kH,jP,kJ,eN,fT,lu,kG,Bool.not_true]|((with_reducible apply bp) <;> intro _)|with_reducible_and_instances refine MU (hd.s1.mono z.inc) iY kb (by omega) hr (fun p hp=>?_)|with_reducible_and_instances refine tI hp EM (fun q hq=>?_)|with_reducible_and_instances refine fX hq gU ?_)
  ·exact kB _ (z.aw _ _ (by omega))
  rw [hw]
  (rw [aR];with_reducible refine cz (m:=_) ?_ ⟨i+1,_,rfl,z,⟨rfl,by omega,q0⟩,aB (by kernel_rfl)⟩;omega)
 clear hi aS hw
 simp -implicitDefEqProofs only [syms,aa,seval,kr,q0.lay,dy,eo,fV,fH,fW,jF,jO,kH,jP,kJ,eN,fT,lu,kG,Bool.not_true]
 obtain ⟨I2,eM⟩:∃ I:Nat→Env→Heap→Prop,I=(fun n e h'=>∃ (i:Nat) (h1:Heap),h'=h1.lay [] h1.low∧Ext h h1∧(n=d.aV.length - i∧i≤d.aV.length∧(∀ c∈d.aV.take i,c.reads.length≤40)∧Holds h1 A0 (.row (dw p0 p1 p2 p5 p6 q b) 29 false))∧∃ J:Nat→Value,e=(J 0::.pointer (some ⟨A0,0,none⟩)::jr J 2 2 (.int .i64 i::jr J 5 130 ([])))):=⟨_,rfl⟩
 refine dg I2 _ (by rw [eM];exact ⟨0,_,rfl,z,⟨rfl,by omega,by simp,q0⟩,aB (by kernel_rfl)⟩) ?_
 intro n e h' aH
 rw [eM] at aH
 obtain ⟨i,bE,rfl,z,hinv,J,rfl⟩:=aH
 clear q0
 obtain ⟨rfl,hi,az,q0⟩:=hinv
 have hw:=eg i (by omega)
 simp -implicitDefEqProofs only [syms,aa,seval,kr,q0.lay,dy,eo,fV,fH,fW,jF,jO,kH,jP,kJ,eN,fT,lu,kG,Bool.not_true]
 refine bp (fun aS=>?_) (fun aS=>?_)
 ·obtain ⟨r,hr,bo⟩:=eP (l:=d.aV) (i:=i) (by omega)
  repeat' (first|simp -implicitDefEqProofs only [syms,aa,seval,kr,q0.lay,dy,eo,fV,fH,fW,jF,jO,kH,jP,kJ,eN,fT,lu,kG,Bool.not_true]|((with_reducible apply bp) <;> intro _)|with_reducible_and_instances refine GO (hd.s2.mono z.inc) ky lC (by omega) hr (fun p b hb hp=>?_)|with_reducible_and_instances refine tI hp BB (fun q hq=>?_)|with_reducible_and_instances refine fX hq gU ?_|with_reducible_and_instances refine IF hp Pu (fun q hq=>?_)|with_reducible_and_instances refine fX hq B3 ?_)
  ·exact kB _ (z.aw _ _ (by omega))
  refine zgK r.reads _ 40 3000 _ (hb.lay _ _) _ (fun er h' x=>?_) (fun h' x=>?_)
  rotate_left
  ·(replace z:=z.an x (by omega);( replace q0:=q0.over x );rw [ao h'])
   repeat' (first|simp -implicitDefEqProofs only [syms,aa,seval,kr,Bool.not_false]|((with_reducible_and_instances apply cm);(· rfl)))
   exact kB _ (z.aw _ _ (by omega))
  (replace z:=z.an x (by omega);(replace q0:=q0.over x);rw [ao h'])
  repeat' (first|simp -implicitDefEqProofs only [syms,aa,seval,kr,Bool.not_true]|((with_reducible_and_instances apply cm);(· rfl)))
  rw [hw]
  (rw [eM];with_reducible refine cz (m:=_) ?_ ⟨i+1,_,rfl,z,⟨rfl,by omega,pf (i:=i) (P:=fun c:bF=>c.reads.length≤40) bo az (by omega),q0⟩,aB (by kernel_rfl)⟩;omega)
 rw [List.take_of_length_le (by omega)] at az
 clear hi aS hw
 simp -implicitDefEqProofs only [syms,aa,seval,kr,q0.lay,dy,eo,fV,fH,fW,jF,jO,kH,jP,kJ,eN,fT,lu,kG,Bool.not_true]
 obtain ⟨I3,j0⟩:∃ I:Nat→Env→Heap→Prop,I=(fun n e h'=>∃ (i:Nat) (h1:Heap),h'=h1.lay [] h1.low∧Ext h h1∧(n=d.rules.length - i∧i≤d.rules.length∧(∀ r∈d.rules.take i,r.body.length≤9)∧Holds h1 A0 (.row (dw p0 p1 p2 p5 p6 q b) 29 false))∧∃ J:Nat→Value,e=(J 0::.pointer (some ⟨A0,0,none⟩)::jr J 2 3 (.int .i64 i::jr J 6 129 ([])))):=⟨_,rfl⟩
 refine dg I3 _ (by rw [j0];exact ⟨0,_,rfl,z,⟨rfl,by omega,by simp,q0⟩,aB (by kernel_rfl)⟩) ?_
 intro n e h' aH
 rw [j0] at aH
 obtain ⟨i,bE,rfl,z,hinv,J,rfl⟩:=aH
 clear q0
 obtain ⟨rfl,hi,tT,q0⟩:=hinv
 have hw:=eg i (by omega)
 simp -implicitDefEqProofs only [syms,aa,seval,kr,q0.lay,dy,eo,fV,fH,fW,jF,jO,kH,jP,kJ,eN,fT,lu,kG,Bool.not_true]
 refine bp (fun aS=>?_) (fun aS=>?_)
 ·obtain ⟨r,hr,bo⟩:=eP (l:=d.rules) (i:=i) (by omega)
  repeat' (first|simp -implicitDefEqProofs only [syms,aa,seval,kr,q0.lay,dy,eo,fV,fH,fW,jF,jO,kH,jP,kJ,eN,fT,lu,kG,Bool.not_true]|with_reducible_and_instances refine ML (hd.s5.mono z.inc) kA nL (by omega) hr (fun p b hb hp=>?_)|with_reducible_and_instances refine Cz hp EN (fun q hq=>?_)|with_reducible_and_instances refine mM hq fw bS ?_)
  refine Pe r.head _ _ (fun sH h' x=>?_) (fun sH h' x=>?_)
  rotate_left
  ·(replace z:=z.an x (by omega);( replace q0:=q0.over x );rw [ao h'])
   repeat' (first|simp -implicitDefEqProofs only [syms,aa,seval,kr,Bool.not_false]|((with_reducible_and_instances apply cm);(· rfl)))
   exact kB _ (z.aw _ _ (by omega))
  (replace z:=z.an x (by omega);(replace q0:=q0.over x);rw [ao h'])
  repeat' (first|simp -implicitDefEqProofs only [syms,aa,seval,kr,q0.lay,dy,eo,fV,fH,fW,jF,jO,kH,jP,kJ,eN,fT,lu,kG,Bool.not_true]|with_reducible_and_instances refine ML (hd.s5.mono z.inc) kA nL (by omega) hr (fun p b hb hp=>?_)|with_reducible_and_instances refine CA hp EO (fun q hq=>?_)|with_reducible_and_instances refine fX hq rr ?_|((with_reducible_and_instances apply cm);(· rfl)))
  refine znr r.body _ 9 _ (Sl.mono (by assumption) (cP.lay _ _ _)) _ (fun hb9 _ h' x=>?_) (fun h' x=>?_)
  rotate_left
  ·(replace z:=z.an x (by omega);( replace q0:=q0.over x );rw [ao h'])
   repeat' (first|simp -implicitDefEqProofs only [syms,aa,seval,kr,Bool.not_false]|((with_reducible_and_instances apply cm);(· rfl)))
   exact kB _ (z.aw _ _ (by omega))
  (replace z:=z.an x (by omega);(replace q0:=q0.over x);rw [ao h'])
  repeat' (first|simp -implicitDefEqProofs only [syms,aa,seval,kr,Bool.not_true]|((with_reducible_and_instances apply cm);(· rfl)))
  rw [hw]
  (rw [j0];with_reducible refine cz (m:=_) ?_ ⟨i+1,_,rfl,z,⟨rfl,by omega,pf (i:=i) (P:=fun r:bP=>r.body.length≤9) bo tT (by omega),q0⟩,aB (by kernel_rfl)⟩;omega)
 rw [List.take_of_length_le (by omega)] at tT
 clear hi aS hw
 simp -implicitDefEqProofs only [syms,aa,seval,kr,q0.lay,dy,eo,fV,fH,fW,jF,jO,kH,jP,kJ,eN,fT,lu,kG,Bool.not_true]
 obtain ⟨I4,CI⟩:∃ I:Nat→Env→Heap→Prop,I=(fun n e h'=>∃ (i:Nat) (h1:Heap),h'=h1.lay [] h1.low∧Ext h h1∧(n=d.bc.length - i∧i≤d.bc.length∧(∀ g∈d.bc.take i,g.body.length≤9)∧Holds h1 A0 (.row (dw p0 p1 p2 p5 p6 q b) 29 false))∧∃ J:Nat→Value,e=(J 0::.pointer (some ⟨A0,0,none⟩)::jr J 2 4 (.int .i64 i::jr J 7 128 ([])))):=⟨_,rfl⟩
 refine dg I4 _ (by rw [CI];exact ⟨0,_,rfl,z,⟨rfl,by omega,by simp,q0⟩,aB (by kernel_rfl)⟩) ?_
 intro n e h' aH
 rw [CI] at aH
 obtain ⟨i,bE,rfl,z,hinv,J,rfl⟩:=aH
 clear q0
 obtain ⟨rfl,hi,tS,q0⟩:=hinv
 have hw:=eg i (by omega)
 simp -implicitDefEqProofs only [syms,aa,seval,kr,q0.lay,dy,eo,fV,fH,fW,jF,jO,kH,jP,kJ,eN,fT,lu,kG,Bool.not_true]
 refine bp (fun aS=>?_) (fun aS=>?_)
 rotate_left
 ·rw [List.take_of_length_le (by omega)] at tS
  repeat' (simp -implicitDefEqProofs only [syms,aa,seval,kr])
  exact tK (by omega) e1 e2 az e5 tT e6 tS _ (z.aw _ _ (by omega))
 obtain ⟨r,hr,bo⟩:=eP (l:=d.bc) (i:=i) (by omega)
 repeat' (first|simp -implicitDefEqProofs only [syms,aa,seval,kr,q0.lay,dy,eo,fV,fH,fW,jF,jO,kH,jP,kJ,eN,fT,lu,kG,Bool.not_true]|((with_reducible apply bp) <;> intro _)|with_reducible_and_instances refine PC (hd.s6.mono z.inc) k9 ml (by omega) hr (fun p b hb hp=>?_)|with_reducible_and_instances refine TE hp Pv (fun q hq=>?_)|with_reducible_and_instances refine fX hq gU ?_|with_reducible_and_instances refine TF hp MR (fun q hq=>?_)|with_reducible_and_instances refine mM hq fw bS ?_)
 ·exact kB _ (z.aw _ _ (by omega))
 refine Pe r.head _ _ (fun sH h' x=>?_) (fun sH h' x=>?_)
 rotate_left
 ·(replace z:=z.an x (by omega);( replace q0:=q0.over x );rw [ao h'])
  repeat' (first|simp -implicitDefEqProofs only [syms,aa,seval,kr,Bool.not_false]|((with_reducible_and_instances apply cm);(· rfl)))
  exact kB _ (z.aw _ _ (by omega))
 (replace z:=z.an x (by omega);(replace q0:=q0.over x);rw [ao h'])
 repeat' (first|simp -implicitDefEqProofs only [syms,aa,seval,kr,q0.lay,dy,eo,fV,fH,fW,jF,jO,kH,jP,kJ,eN,fT,lu,kG,Bool.not_true]|with_reducible_and_instances refine PC (hd.s6.mono z.inc) k9 ml (by omega) hr (fun p b hb hp=>?_)|with_reducible_and_instances refine TG hp PA (fun q hq=>?_)|with_reducible_and_instances refine fX hq rr ?_|((with_reducible_and_instances apply cm);(· rfl)))
 refine znr r.body _ 9 _ (Sl.mono (by assumption) (cP.lay _ _ _)) _ (fun hb9 _ h' x=>?_) (fun h' x=>?_)
 rotate_left
 ·(replace z:=z.an x (by omega);( replace q0:=q0.over x );rw [ao h'])
  repeat' (first|simp -implicitDefEqProofs only [syms,aa,seval,kr,Bool.not_false]|((with_reducible_and_instances apply cm);(· rfl)))
  exact kB _ (z.aw _ _ (by omega))
 (replace z:=z.an x (by omega);(replace q0:=q0.over x);rw [ao h'])
 repeat' (first|simp -implicitDefEqProofs only [syms,aa,seval,kr,Bool.not_true]|((with_reducible_and_instances apply cm);(· rfl)))
 rw [hw]
 (rw [CI];with_reducible refine cz (m:=_) ?_ ⟨i+1,_,rfl,z,⟨rfl,by omega,pf (i:=i) (P:=fun g:dC=>g.body.length≤9) bo tS (by omega),q0⟩,aB (by kernel_rfl)⟩;omega)
end Go.Proofs.YtdplfgoifjjniaaGreatDoor
