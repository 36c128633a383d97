/- The code of some functions, node by node, for simp. Written by a program (mkcode.py). No condition. -/
import Derived.Test.YtemapihoobmonaaGreatDoorG21
import Derived.Test.YtemapihoobmonaaGreatDoorG25
import Derived.KernelRfl
import Derived.Test.YtemapihoobmonaaGreatDoorG37
import Derived.Test.YtemapihoobmonaaGreatDoorG16
namespace Go.Proofs.YtemapihoobmonaaGreatDoor
open Go.Am
set_option linter.unusedVariables false
set_option linter.unusedSimpArgs false
set_option maxRecDepth 100000
set_option maxHeartbeats 0
noncomputable def N69:=zaA Tryz.f69
noncomputable def x69:=PLift.up (by have c:=zai N69 Tryz.f69; simp only [zao,Tryz.f69,Option.getD_some,zam,opsF,opsX,zaf,zax,dstL,zal,List.append_eq,List.cons_append,List.nil_append,seval] at c; exact nd c <| nd @ix49 <| nd @ld9 <| nd @ln49 <| nd @ln9 <| @fi69)
theorem c69:type_of% x69.down:=x69.down
noncomputable def N23:=zaA Tryz.f23
noncomputable def x23:=PLift.up (by have c:=zai N23 Tryz.f23; simp only [zao,Tryz.f23,Option.getD_some,zam,opsF,opsX,zaf,zax,dstL,zal,List.append_eq,List.cons_append,List.nil_append,seval] at c; exact nd c <| nd @zvc <| nd @zjN <| nd @zf3 <| nd @zvu <| nd @zuX <| nd @zt7 <| nd @zvi <| nd @zuz <| nd @zuh <| nd @zA8 <| nd @zqF <| nd @zBF <| nd @zBe <| nd @ix50 <| nd @ix51 <| nd @ix52 <| nd @ix53 <| nd @ld26 <| nd @ld27 <| nd @ld49 <| nd @ld50 <| nd @ld51 <| nd @ld52 <| nd @ld53 <| nd @ld9 <| nd @ln50 <| nd @ln51 <| nd @ln52 <| nd @ln53 <| nd @ln9 <| @fi23)
theorem c23:type_of% x23.down:=x23.down
noncomputable def N74:=zaA Tryz.f74
noncomputable def x74:=PLift.up (by have c:=zai N74 Tryz.f74; simp only [zao,Tryz.f74,Option.getD_some,zam,opsF,opsX,zaf,zax,dstL,zal,List.append_eq,List.cons_append,List.nil_append,seval] at c; exact nd c <| nd @zuh <| nd @ix49 <| nd @ld49 <| nd @ld9 <| nd @ln49 <| @fi74)
theorem c74:type_of% x74.down:=x74.down
noncomputable def N75:=zaA Tryz.f75
noncomputable def x75:=PLift.up (by have c:=zai N75 Tryz.f75; simp only [zao,Tryz.f75,Option.getD_some,zam,opsF,opsX,zaf,zax,dstL,zal,List.append_eq,List.cons_append,List.nil_append,seval] at c; exact nd c <| nd @bs49 <| nd @ix49 <| nd @ld9 <| nd @ln49 <| @fi75)
theorem c75:type_of% x75.down:=x75.down
noncomputable def N27:=zaA Tryz.f27
noncomputable def x27:=PLift.up (by have c:=zai N27 Tryz.f27; simp only [zao,Tryz.f27,Option.getD_some,zam,opsF,opsX,zaf,zax,dstL,zal,List.append_eq,List.cons_append,List.nil_append,seval] at c; exact nd c <| nd @bs49 <| nd @zjN <| nd @zf3 <| nd @zqF <| nd @ix49 <| nd @ix51 <| nd @ld49 <| nd @ld51 <| nd @ld55 <| nd @ld9 <| nd @ln49 <| nd @ln51 <| @fi27)
theorem c27:type_of% x27.down:=x27.down
noncomputable def N32:=zaA Tryz.f32
noncomputable def x32:=PLift.up (by have c:=zai N32 Tryz.f32; simp only [zao,Tryz.f32,Option.getD_some,zam,opsF,opsX,zaf,zax,dstL,zal,List.append_eq,List.cons_append,List.nil_append,seval] at c; exact nd c <| nd @ix49 <| nd @ld55 <| nd @ld9 <| nd @ln49 <| @fi32)
theorem c32:type_of% x32.down:=x32.down
end Go.Proofs.YtemapihoobmonaaGreatDoor
namespace Go.Proofs.YtemapihoobmonaaGreatDoor
open Go.Am
set_option linter.unusedSimpArgs false
set_option linter.unusedVariables false
set_option maxRecDepth 100000
set_option maxHeartbeats 0
theorem zgK (l:List ByteArray) (v:Value) (n0 m:Int) (h:Heap) (hl:Sl Rep.str h v l) (K:Value→Heap→Prop) (h1k:(l.length:Int)≤n0→∀ h',Ext h h'→K (.bool true) h') (h2k:∀ h',Ext h h'→K (.bool false) h'):Ok Tryz.prog tab ov 69 [v,.int .i64 n0,.int .i64 m] h K:=by
  rw [zaa h]
  have z:=Ext.refl h
  have hle:=hl.le
  have hva:=zaR v
  have hlv:=fun (hh:Heap)=>hl.lenA ds49 hh
  refine Ok.into rfl zyl (zaD N69) rfl (m:=26) rfl ?_
  repeat' (first | simp -implicitDefEqProofs only [syms,symx,seval,c69,hva,hlv] | ((with_reducible  apply zar ) <;> intro _))
  · exact h2k _ (z.upW _ _ (by omega))
  obtain ⟨I1,hI1⟩:∃ I:Nat→Env→Heap→Prop,I=(fun n e h'=>∃ (i:Nat) (s:Int) (h1:Heap),h'=h1.lay [] h1.low∧Ext h h1∧(n=l.length - i∧i≤l.length)∧∃ J:Nat→Value,e=(v::.int .i64 n0::.int .i64 m::jr J 3 4 (.int .i64 s::.int .i64 i::jr J 9 20 ([])))):=⟨_,rfl⟩
  refine zaC I1 _ (by rw [hI1]; exact ⟨0,0,_,rfl,z,⟨rfl,by omega⟩,junk (by kernel_rfl)⟩) ?_
  intro n e h' hin
  rw [hI1] at hin
  obtain ⟨i,s,h1',rfl,z,hinv,J,rfl⟩:=hin
  obtain ⟨rfl,hi⟩:=hinv
  have hw:i < l.length→IntKind.i64.wrap ((i:Int)+1)=((i+1:Nat):Int):=fun hh=>by unfold maxLen at hle; rw [zad (by omega) (by omega)]; omega
  simp -implicitDefEqProofs only [syms,symx,seval,c69,hva,hlv]
  refine zar (fun hlt=>?_) (fun hlt=>?_)
  rotate_left
  · repeat' ( simp -implicitDefEqProofs only [syms,symx,seval,c69])
    exact h1k (by omega) _ (z.upW _ _ (by omega))
  obtain ⟨r,hr,hr'⟩:=zaY (l:=l) (i:=i) (by omega)
  repeat' (first | simp -implicitDefEqProofs only [syms,symx,seval,c69,hva] | ((with_reducible  apply zar ) <;> intro _) | with_reducible_and_instances refine zeh (hl.mono z.inc) ds49 sz9 (by omega) hr (fun p hp=>?_) | with_reducible_and_instances refine zbF hp ag9 ?_)
  · exact h2k _ (z.upW _ _ (by omega))
  · rw [hw (by omega)]
    (rw [hI1]; with_reducible refine zac (m:=_) ?_ ⟨i+1,IntKind.i64.wrap (s+r.size),_,rfl,z,⟨rfl,by omega⟩,junk (by kernel_rfl)⟩; omega)
def hasS (l:List ByteArray) (x:ByteArray):Bool:=l.any (fun y=>decide (y=x))
theorem hasS_iff {l:List ByteArray} {x:ByteArray}:hasS l x=true↔x∈l:=by
  unfold hasS
  rw [List.any_eq_true]
  exact ⟨fun ⟨y,h1,h2⟩=>of_decide_eq_true h2 ▸ h1,fun h=>⟨x,h,decide_eq_true rfl⟩⟩
theorem zzr (l:List ByteArray) (who:ByteArray) (p0 p1 p2 p5 p6:Value) (q b:Int) (h:Heap) (hl:Sl Rep.str h p0 l) (K:Value→Heap→Prop) (hk:∀ h',Ext h h'→K (.bool (hasS l who)) h'):Ok Tryz.prog tab ov 74 [zbZ p0 p1 p2 p5 p6 q b,.string who] h K:=by
  rw [zaa h]
  have z:=Ext.refl h
  have hle:=hl.le
  have hva:=zaR p0
  have hlv:=fun (hh:Heap)=>hl.lenA ds49 hh
  refine Ok.into rfl zxG (zaD N74) rfl (m:=18) rfl ?_
  repeat' ( simp -implicitDefEqProofs only [syms,symx,seval,c74,zaq,pol0,hva,hlv])
  refine zjc (fun h' x hq=>?_)
  have q0:=hq 0 _ rfl
  clear hq
  (replace z:=z.overW x (by (try simp only [lsz]); omega); rw [zaa h'])
  obtain ⟨A0,hA0⟩:∃ A0,A0=h.size+0:=⟨_,rfl⟩
  rw [← hA0] at q0
  rw [← hA0]
  obtain ⟨I1,hI1⟩:∃ I:Nat→Env→Heap→Prop,I=(fun n e h'=>∃ (i:Nat) (h1:Heap),h'=h1.lay [] h1.low∧Ext h h1∧(n=l.length - i∧i≤l.length∧(∀ x∈l.take i,decide (x=who)=false)∧Holds h1 A0 (.row (zaE p0 p1 p2 p5 p6 q b) 55 false))∧∃ J:Nat→Value,e=(J 0::.string who::.pointer (some ⟨A0,0,none⟩)::jr J 3 2 (.int .i64 i::jr J 6 14 ([])))):=⟨_,rfl⟩
  refine zaC I1 _ (by rw [hI1]; exact ⟨0,_,rfl,z,⟨rfl,by omega,by simp,q0⟩,junk (by kernel_rfl)⟩) ?_
  intro n e h' hin
  rw [hI1] at hin
  obtain ⟨i,h1',rfl,z,hinv,J,rfl⟩:=hin
  clear q0
  obtain ⟨rfl,hi,hall,q0⟩:=hinv
  have hw:i < l.length→IntKind.i64.wrap ((i:Int)+1)=((i+1:Nat):Int):=fun hh=>by unfold maxLen at hle; rw [zad (by omega) (by omega)]; omega
  simp -implicitDefEqProofs only [syms,symx,seval,c74,q0.lay,pol0,hva,hlv]
  refine zar (fun hlt=>?_) (fun hlt=>?_)
  rotate_left
  · rw [List.take_of_length_le (by omega)] at hall
    have hf:hasS l who=false:=by unfold hasS; rw [List.any_eq_false]; intro x hx; rw [hall x hx]; decide
    rw [hf] at hk
    repeat' ( simp -implicitDefEqProofs only [syms,symx,seval,c74])
    exact hk _ (z.upW _ _ (by omega))
  obtain ⟨r,hr,hr'⟩:=zaY (l:=l) (i:=i) (by omega)
  repeat' (first | simp -implicitDefEqProofs only [syms,symx,seval,c74,q0.lay,pol0,hva] | ((with_reducible  apply zar ) <;> intro _) | with_reducible_and_instances refine zeh (hl.mono z.inc) ds49 sz9 (by omega) hr (fun p hp=>?_) | with_reducible_and_instances refine zbF hp ag9 ?_)
  · have he:r=who:=by assumption
    rw [show hasS l who=true from hasS_iff.2 (he ▸ List.mem_of_getElem? hr')] at hk
    exact hk _ (z.upW _ _ (by omega))
  · have hne:¬ r=who:=by assumption
    rw [hw (by omega)]
    (rw [hI1]; with_reducible refine zac (m:=_) ?_ ⟨i+1,_,rfl,z,⟨rfl,by omega,zci (i:=i) (P:=fun x:ByteArray=>decide (x=who)=false) hr' hall (decide_eq_false hne),q0⟩,junk (by kernel_rfl)⟩; omega)
theorem zki (d:PolicyD) (p0 p1 p2 p5 p6:Value) (q b:Int) (h:Heap) (hd:PolH h p0 p1 p2 p5 p6 d) (K:Value→Heap→Prop) (h1k:d.principals.length≤70→d.clears.length≤70→(∀ c∈d.clears,c.reads.length≤40)→∀ h',Ext h h'→K (.bool true) h') (h2k:∀ h',Ext h h'→K (.bool false) h'):Ok Tryz.prog tab ov 23 [zbZ p0 p1 p2 p5 p6 q b] h K:=by
  rw [zaa h]
  have z:=Ext.refl h
  have hv0:=zaR p0
  have hv1:=zaR p1
  have hv2:=zaR p2
  have hv5:=zaR p5
  have hv6:=zaR p6
  have hl1:=fun (hh:Heap)=>hd.s1.lenA ds50 hh
  have hl2:=fun (hh:Heap)=>hd.s2.lenA ds51 hh
  have hl5:=fun (hh:Heap)=>hd.s5.lenA ds52 hh
  have hl6:=fun (hh:Heap)=>hd.s6.lenA ds53 hh
  refine Ok.into rfl zwp (zaD N23) rfl (m:=134) rfl ?_
  repeat' ( simp -implicitDefEqProofs only [syms,symx,seval,c23,zaq,pol0,pol1,pol2,pol5,pol6,hv0,hv1,hv2,hv5,hv6,hl1,hl2,hl5,hl6])
  refine zgK d.principals p0 70 6000 _ (hd.s0.lay _ _) _ (fun e0 h' x=>?_) (fun h' x=>?_)
  rotate_left
  · have q0:=Holds.top (i:=0) x rfl
    ((skip); replace z:=z.overW x (by (try simp only [lsz]); omega); (try replace q0:=q0.over x); rw [zaa h'])
    repeat' (first | simp -implicitDefEqProofs only [syms,symx,seval,c23,Bool.not_false] | ((with_reducible_and_instances apply zap); (· rfl)))
    exact h2k _ (z.upW _ _ (by omega))
  have q0:=Holds.top (i:=0) x rfl
  ((skip); replace z:=z.overW x (by (try simp only [lsz]); omega); (try replace q0:=q0.over x); rw [zaa h'])
  obtain ⟨A0,hA0⟩:∃ A0,A0=h.size+0:=⟨_,rfl⟩
  rw [← hA0] at q0
  rw [← hA0]
  repeat' (first | simp -implicitDefEqProofs only [syms,symx,seval,c23,q0.lay,pol0,pol1,pol2,pol5,pol6,hv0,hv1,hv2,hv5,hv6,hl1,hl2,hl5,hl6,Bool.not_true] | ((with_reducible  apply zar ) <;> intro _) | ((with_reducible_and_instances apply zap); (· rfl)))
  iterate 4 (· exact h2k _ (z.upW _ _ (by omega)))
  have e1:d.preds.length≤70:=by omega
  have e2:d.clears.length≤70:=by omega
  have e5:d.rules.length≤70:=by omega
  have e6:d.grants.length≤70:=by omega
  obtain ⟨I1,hI1⟩:∃ I:Nat→Env→Heap→Prop,I=(fun n e h'=>∃ (i:Nat) (h1:Heap),h'=h1.lay [] h1.low∧Ext h h1∧(n=d.preds.length - i∧i≤d.preds.length∧Holds h1 A0 (.row (zaE p0 p1 p2 p5 p6 q b) 55 false))∧∃ J:Nat→Value,e=(J 0::.pointer (some ⟨A0,0,none⟩)::J 2::.int .i64 i::jr J 4 131 ([]))):=⟨_,rfl⟩
  refine zaC I1 _ (by rw [hI1]; exact ⟨0,_,rfl,z,⟨rfl,by omega,q0⟩,junk (by kernel_rfl)⟩) ?_
  intro n e h' hin
  rw [hI1] at hin
  obtain ⟨i,h1',rfl,z,hinv,J,rfl⟩:=hin
  clear q0
  obtain ⟨rfl,hi,q0⟩:=hinv
  have hw:IntKind.i64.wrap ((i:Int)+1)=((i+1:Nat):Int):=by rw [zad (by omega) (by omega)]; omega
  simp -implicitDefEqProofs only [syms,symx,seval,c23,q0.lay,pol0,pol1,pol2,pol5,pol6,hv0,hv1,hv2,hv5,hv6,hl1,hl2,hl5,hl6,Bool.not_true]
  refine zar (fun hlt=>?_) (fun hlt=>?_)
  · obtain ⟨r,hr,hr'⟩:=zaY (l:=d.preds) (i:=i) (by omega)
    repeat' (first | simp -implicitDefEqProofs only [syms,symx,seval,c23,q0.lay,pol0,pol1,pol2,pol5,pol6,hv0,hv1,hv2,hv5,hv6,hl1,hl2,hl5,hl6,Bool.not_true] | ((with_reducible  apply zar ) <;> intro _) | with_reducible_and_instances refine zAS (hd.s1.mono z.inc) ds50 zCM (by omega) hr (fun p hp=>?_) | with_reducible_and_instances refine fdP0 hp zvc (fun q hq=>?_) | with_reducible_and_instances refine zbF hq ag9 ?_)
    · exact h2k _ (z.upW _ _ (by omega))
    rw [hw]
    (rw [hI1]; with_reducible refine zac (m:=_) ?_ ⟨i+1,_,rfl,z,⟨rfl,by omega,q0⟩,junk (by kernel_rfl)⟩; omega)
  clear hi hlt hw
  simp -implicitDefEqProofs only [syms,symx,seval,c23,q0.lay,pol0,pol1,pol2,pol5,pol6,hv0,hv1,hv2,hv5,hv6,hl1,hl2,hl5,hl6,Bool.not_true]
  obtain ⟨I2,hI2⟩:∃ I:Nat→Env→Heap→Prop,I=(fun n e h'=>∃ (i:Nat) (h1:Heap),h'=h1.lay [] h1.low∧Ext h h1∧(n=d.clears.length - i∧i≤d.clears.length∧(∀ c∈d.clears.take i,c.reads.length≤40)∧Holds h1 A0 (.row (zaE p0 p1 p2 p5 p6 q b) 55 false))∧∃ J:Nat→Value,e=(J 0::.pointer (some ⟨A0,0,none⟩)::jr J 2 2 (.int .i64 i::jr J 5 130 ([])))):=⟨_,rfl⟩
  refine zaC I2 _ (by rw [hI2]; exact ⟨0,_,rfl,z,⟨rfl,by omega,by simp,q0⟩,junk (by kernel_rfl)⟩) ?_
  intro n e h' hin
  rw [hI2] at hin
  obtain ⟨i,h1',rfl,z,hinv,J,rfl⟩:=hin
  clear q0
  obtain ⟨rfl,hi,hall,q0⟩:=hinv
  have hw:IntKind.i64.wrap ((i:Int)+1)=((i+1:Nat):Int):=by rw [zad (by omega) (by omega)]; omega
  simp -implicitDefEqProofs only [syms,symx,seval,c23,q0.lay,pol0,pol1,pol2,pol5,pol6,hv0,hv1,hv2,hv5,hv6,hl1,hl2,hl5,hl6,Bool.not_true]
  refine zar (fun hlt=>?_) (fun hlt=>?_)
  · obtain ⟨r,hr,hr'⟩:=zaY (l:=d.clears) (i:=i) (by omega)
    repeat' (first | simp -implicitDefEqProofs only [syms,symx,seval,c23,q0.lay,pol0,pol1,pol2,pol5,pol6,hv0,hv1,hv2,hv5,hv6,hl1,hl2,hl5,hl6,Bool.not_true] | ((with_reducible  apply zar ) <;> intro _) | with_reducible_and_instances refine zi1 (hd.s2.mono z.inc) ds51 zkl (by omega) hr (fun p b hb hp=>?_) | with_reducible_and_instances refine fdP0 hp zjN (fun q hq=>?_) | with_reducible_and_instances refine zbF hq ag9 ?_ | with_reducible_and_instances refine fdP1 hp zf3 (fun q hq=>?_) | with_reducible_and_instances refine zbF hq ag49 ?_)
    · exact h2k _ (z.upW _ _ (by omega))
    refine zgK r.reads _ 40 3000 _ (hb.lay _ _) _ (fun er h' x=>?_) (fun h' x=>?_)
    rotate_left
    · ((skip); replace z:=z.overW x (by (try simp only [lsz]); omega); (try replace q0:=q0.over x); rw [zaa h'])
      repeat' (first | simp -implicitDefEqProofs only [syms,symx,seval,c23,Bool.not_false] | ((with_reducible_and_instances apply zap); (· rfl)))
      exact h2k _ (z.upW _ _ (by omega))
    ((skip); replace z:=z.overW x (by (try simp only [lsz]); omega); (try replace q0:=q0.over x); rw [zaa h'])
    repeat' (first | simp -implicitDefEqProofs only [syms,symx,seval,c23,Bool.not_true] | ((with_reducible_and_instances apply zap); (· rfl)))
    rw [hw]
    (rw [hI2]; with_reducible refine zac (m:=_) ?_ ⟨i+1,_,rfl,z,⟨rfl,by omega,zci (i:=i) (P:=fun c:ClearD=>c.reads.length≤40) hr' hall (by omega),q0⟩,junk (by kernel_rfl)⟩; omega)
  rw [List.take_of_length_le (by omega)] at hall
  clear hi hlt hw
  simp -implicitDefEqProofs only [syms,symx,seval,c23,q0.lay,pol0,pol1,pol2,pol5,pol6,hv0,hv1,hv2,hv5,hv6,hl1,hl2,hl5,hl6,Bool.not_true]
  obtain ⟨I3,hI3⟩:∃ I:Nat→Env→Heap→Prop,I=(fun n e h'=>∃ (i:Nat) (h1:Heap),h'=h1.lay [] h1.low∧Ext h h1∧(n=d.rules.length - i∧i≤d.rules.length∧Holds h1 A0 (.row (zaE p0 p1 p2 p5 p6 q b) 55 false))∧∃ J:Nat→Value,e=(J 0::.pointer (some ⟨A0,0,none⟩)::jr J 2 3 (.int .i64 i::jr J 6 129 ([])))):=⟨_,rfl⟩
  refine zaC I3 _ (by rw [hI3]; exact ⟨0,_,rfl,z,⟨rfl,by omega,q0⟩,junk (by kernel_rfl)⟩) ?_
  intro n e h' hin
  rw [hI3] at hin
  obtain ⟨i,h1',rfl,z,hinv,J,rfl⟩:=hin
  clear q0
  obtain ⟨rfl,hi,q0⟩:=hinv
  have hw:IntKind.i64.wrap ((i:Int)+1)=((i+1:Nat):Int):=by rw [zad (by omega) (by omega)]; omega
  simp -implicitDefEqProofs only [syms,symx,seval,c23,q0.lay,pol0,pol1,pol2,pol5,pol6,hv0,hv1,hv2,hv5,hv6,hl1,hl2,hl5,hl6,Bool.not_true]
  refine zar (fun hlt=>?_) (fun hlt=>?_)
  · obtain ⟨r,hr,hr'⟩:=zaY (l:=d.rules) (i:=i) (by omega)
    repeat' (first | simp -implicitDefEqProofs only [syms,symx,seval,c23,q0.lay,pol0,pol1,pol2,pol5,pol6,hv0,hv1,hv2,hv5,hv6,hl1,hl2,hl5,hl6,Bool.not_true] | with_reducible_and_instances refine zyA (hd.s5.mono z.inc) ds52 zA0 (by omega) hr (fun p b hb hp=>?_) | with_reducible_and_instances refine fdc0 hp zvu (fun q hq=>?_) | with_reducible_and_instances refine lda hq ag26 sz26 ?_)
    refine zma r.head _ _ (fun hlx h' x=>?_) (fun hlx h' x=>?_)
    rotate_left
    · ((skip); replace z:=z.overW x (by (try simp only [lsz]); omega); (try replace q0:=q0.over x); rw [zaa h'])
      repeat' (first | simp -implicitDefEqProofs only [syms,symx,seval,c23,Bool.not_false] | ((with_reducible_and_instances apply zap); (· rfl)))
      exact h2k _ (z.upW _ _ (by omega))
    ((skip); replace z:=z.overW x (by (try simp only [lsz]); omega); (try replace q0:=q0.over x); rw [zaa h'])
    repeat' (first | simp -implicitDefEqProofs only [syms,symx,seval,c23,q0.lay,pol0,pol1,pol2,pol5,pol6,hv0,hv1,hv2,hv5,hv6,hl1,hl2,hl5,hl6,Bool.not_true] | with_reducible_and_instances refine zyA (hd.s5.mono z.inc) ds52 zA0 (by omega) hr (fun p b hb hp=>?_) | with_reducible_and_instances refine fdc1 hp zuX (fun q hq=>?_) | with_reducible_and_instances refine zbF hq ag27 ?_ | ((with_reducible_and_instances apply zap); (· rfl)))
    refine znB r.body _ 9 _ (Sl.mono (by assumption) (Inc.lay _ _ _)) _ (fun _ _ h' x=>?_) (fun h' x=>?_)
    rotate_left
    · ((skip); replace z:=z.overW x (by (try simp only [lsz]); omega); (try replace q0:=q0.over x); rw [zaa h'])
      repeat' (first | simp -implicitDefEqProofs only [syms,symx,seval,c23,Bool.not_false] | ((with_reducible_and_instances apply zap); (· rfl)))
      exact h2k _ (z.upW _ _ (by omega))
    ((skip); replace z:=z.overW x (by (try simp only [lsz]); omega); (try replace q0:=q0.over x); rw [zaa h'])
    repeat' (first | simp -implicitDefEqProofs only [syms,symx,seval,c23,Bool.not_true] | ((with_reducible_and_instances apply zap); (· rfl)))
    rw [hw]
    (rw [hI3]; with_reducible refine zac (m:=_) ?_ ⟨i+1,_,rfl,z,⟨rfl,by omega,q0⟩,junk (by kernel_rfl)⟩; omega)
  clear hi hlt hw
  simp -implicitDefEqProofs only [syms,symx,seval,c23,q0.lay,pol0,pol1,pol2,pol5,pol6,hv0,hv1,hv2,hv5,hv6,hl1,hl2,hl5,hl6,Bool.not_true]
  obtain ⟨I4,hI4⟩:∃ I:Nat→Env→Heap→Prop,I=(fun n e h'=>∃ (i:Nat) (h1:Heap),h'=h1.lay [] h1.low∧Ext h h1∧(n=d.grants.length - i∧i≤d.grants.length∧Holds h1 A0 (.row (zaE p0 p1 p2 p5 p6 q b) 55 false))∧∃ J:Nat→Value,e=(J 0::.pointer (some ⟨A0,0,none⟩)::jr J 2 4 (.int .i64 i::jr J 7 128 ([])))):=⟨_,rfl⟩
  refine zaC I4 _ (by rw [hI4]; exact ⟨0,_,rfl,z,⟨rfl,by omega,q0⟩,junk (by kernel_rfl)⟩) ?_
  intro n e h' hin
  rw [hI4] at hin
  obtain ⟨i,h1',rfl,z,hinv,J,rfl⟩:=hin
  clear q0
  obtain ⟨rfl,hi,q0⟩:=hinv
  have hw:IntKind.i64.wrap ((i:Int)+1)=((i+1:Nat):Int):=by rw [zad (by omega) (by omega)]; omega
  simp -implicitDefEqProofs only [syms,symx,seval,c23,q0.lay,pol0,pol1,pol2,pol5,pol6,hv0,hv1,hv2,hv5,hv6,hl1,hl2,hl5,hl6,Bool.not_true]
  refine zar (fun hlt=>?_) (fun hlt=>?_)
  rotate_left
  · repeat' ( simp -implicitDefEqProofs only [syms,symx,seval,c23])
    exact h1k (by omega) (by omega) hall _ (z.upW _ _ (by omega))
  obtain ⟨r,hr,hr'⟩:=zaY (l:=d.grants) (i:=i) (by omega)
  repeat' (first | simp -implicitDefEqProofs only [syms,symx,seval,c23,q0.lay,pol0,pol1,pol2,pol5,pol6,hv0,hv1,hv2,hv5,hv6,hl1,hl2,hl5,hl6,Bool.not_true] | ((with_reducible  apply zar ) <;> intro _) | with_reducible_and_instances refine zyN (hd.s6.mono z.inc) ds53 zA6 (by omega) hr (fun p b hb hp=>?_) | with_reducible_and_instances refine fdG0 hp zt7 (fun q hq=>?_) | with_reducible_and_instances refine zbF hq ag9 ?_ | with_reducible_and_instances refine fdG1 hp zvi (fun q hq=>?_) | with_reducible_and_instances refine lda hq ag26 sz26 ?_)
  · exact h2k _ (z.upW _ _ (by omega))
  refine zma r.head _ _ (fun hlx h' x=>?_) (fun hlx h' x=>?_)
  rotate_left
  · ((skip); replace z:=z.overW x (by (try simp only [lsz]); omega); (try replace q0:=q0.over x); rw [zaa h'])
    repeat' (first | simp -implicitDefEqProofs only [syms,symx,seval,c23,Bool.not_false] | ((with_reducible_and_instances apply zap); (· rfl)))
    exact h2k _ (z.upW _ _ (by omega))
  ((skip); replace z:=z.overW x (by (try simp only [lsz]); omega); (try replace q0:=q0.over x); rw [zaa h'])
  repeat' (first | simp -implicitDefEqProofs only [syms,symx,seval,c23,q0.lay,pol0,pol1,pol2,pol5,pol6,hv0,hv1,hv2,hv5,hv6,hl1,hl2,hl5,hl6,Bool.not_true] | with_reducible_and_instances refine zyN (hd.s6.mono z.inc) ds53 zA6 (by omega) hr (fun p b hb hp=>?_) | with_reducible_and_instances refine fdG2 hp zuz (fun q hq=>?_) | with_reducible_and_instances refine zbF hq ag27 ?_ | ((with_reducible_and_instances apply zap); (· rfl)))
  refine znB r.body _ 9 _ (Sl.mono (by assumption) (Inc.lay _ _ _)) _ (fun _ _ h' x=>?_) (fun h' x=>?_)
  rotate_left
  · ((skip); replace z:=z.overW x (by (try simp only [lsz]); omega); (try replace q0:=q0.over x); rw [zaa h'])
    repeat' (first | simp -implicitDefEqProofs only [syms,symx,seval,c23,Bool.not_false] | ((with_reducible_and_instances apply zap); (· rfl)))
    exact h2k _ (z.upW _ _ (by omega))
  ((skip); replace z:=z.overW x (by (try simp only [lsz]); omega); (try replace q0:=q0.over x); rw [zaa h'])
  repeat' (first | simp -implicitDefEqProofs only [syms,symx,seval,c23,Bool.not_true] | ((with_reducible_and_instances apply zap); (· rfl)))
  rw [hw]
  (rw [hI4]; with_reducible refine zac (m:=_) ?_ ⟨i+1,_,rfl,z,⟨rfl,by omega,q0⟩,junk (by kernel_rfl)⟩; omega)
end Go.Proofs.YtemapihoobmonaaGreatDoor
