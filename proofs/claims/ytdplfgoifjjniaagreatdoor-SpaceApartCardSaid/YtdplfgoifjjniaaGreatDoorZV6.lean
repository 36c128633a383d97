/- Walks: what is gone through of a policy, all bounds. Written out by fill2.py. No condition. -/
import Derived.Test.YtdplfgoifjjniaaGreatDoorG37
import Derived.Test.YtdplfgoifjjniaaGreatDoorG18
namespace Go.Proofs.YtdplfgoifjjniaaGreatDoor
open Go.Am
set_option linter.unusedSimpArgs false
set_option linter.unusedVariables false
set_option maxRecDepth 100000
set_option maxHeartbeats 0
theorem zik (d:PolicyD) (p0 p1 p2 p5 p6:Value) (q b:Int) (h:Heap) (hd:PolH h p0 p1 p2 p5 p6 d) (K:Value→Heap→Prop) (h1k:d.principals.length≤70→d.preds.length≤70→d.clears.length≤70→(∀ c∈d.clears,c.reads.length≤40)→d.rules.length≤70→(∀ r∈d.rules,r.body.length≤9)→d.grants.length≤70→(∀ g∈d.grants,g.body.length≤9)→∀ h',Ext h h'→K (.bool true) h') (h2k:∀ h',Ext h h'→K (.bool false) h'):Ok Tryz.prog tab ov 17 [zbO p0 p1 p2 p5 p6 q b] h K:=by
 rw [zaa h]
 have z:=Ext.refl h
 have hv0:=zaQ p0
 have hv1:=zaQ p1
 have hv2:=zaQ p2
 have hv5:=zaQ p5
 have hv6:=zaQ p6
 have hl1:=fun (hh:Heap)=>hd.s1.lenA ds24 hh
 have hl2:=fun (hh:Heap)=>hd.s2.lenA ds25 hh
 have hl5:=fun (hh:Heap)=>hd.s5.lenA ds26 hh
 have hl6:=fun (hh:Heap)=>hd.s6.lenA ds27 hh
 refine Ok.into rfl zw3 (zaB N17) rfl (m:=134) rfl ?_
 repeat' ( simp -implicitDefEqProofs only [syms,symx,seval,c17,zax,pol0,pol1,pol2,pol5,pol6,hv0,hv1,hv2,hv5,hv6,hl1,hl2,hl5,hl6])
 refine zgf d.principals p0 70 6000 _ (hd.s0.lay _ _) _ (fun e0 h' x=>?_) (fun h' x=>?_)
 rotate_left
 ·have q0:=Holds.top (i:=0) x rfl
  ((skip);replace z:=z.overW x (by (try simp only [lsz]);omega);(try replace q0:=q0.over x);rw [zaa h'])
  repeat' (first|simp -implicitDefEqProofs only [syms,symx,seval,c17,Bool.not_false]|((with_reducible_and_instances apply zal);(· rfl)))
  exact h2k _ (z.upW _ _ (by omega))
 have q0:=Holds.top (i:=0) x rfl
 ((skip);replace z:=z.overW x (by (try simp only [lsz]);omega);(try replace q0:=q0.over x);rw [zaa h'])
 obtain ⟨A0,hA0⟩:∃ A0,A0=h.size+0:=⟨_,rfl⟩
 rw [← hA0] at q0
 rw [← hA0]
 repeat' (first|simp -implicitDefEqProofs only [syms,symx,seval,c17,q0.lay,pol0,pol1,pol2,pol5,pol6,hv0,hv1,hv2,hv5,hv6,hl1,hl2,hl5,hl6,Bool.not_true]|((with_reducible  apply zaE ) <;> intro _)|((with_reducible_and_instances apply zal);(· rfl)))
 iterate 4 (· exact h2k _ (z.upW _ _ (by omega)))
 have e1:d.preds.length≤70:=by omega
 have e2:d.clears.length≤70:=by omega
 have e5:d.rules.length≤70:=by omega
 have e6:d.grants.length≤70:=by omega
 obtain ⟨I1,hI1⟩:∃ I:Nat→Env→Heap→Prop,I=(fun n e h'=>∃ (i:Nat) (h1:Heap),h'=h1.lay [] h1.low∧Ext h h1∧(n=d.preds.length - i∧i≤d.preds.length∧Holds h1 A0 (.row (zaw p0 p1 p2 p5 p6 q b) 29 false))∧∃ J:Nat→Value,e=(J 0::.pointer (some ⟨A0,0,none⟩)::J 2::.int .i64 i::jr J 4 131 ([]))):=⟨_,rfl⟩
 refine zaI I1 _ (by rw [hI1];exact ⟨0,_,rfl,z,⟨rfl,by omega,q0⟩,junk (by kernel_rfl)⟩) ?_
 intro n e h' hin
 rw [hI1] at hin
 obtain ⟨i,h1',rfl,z,hinv,J,rfl⟩:=hin
 clear q0
 obtain ⟨rfl,hi,q0⟩:=hinv
 have hw:IntKind.i64.wrap ((i:Int)+1)=((i+1:Nat):Int):=by rw [wrap_i64 (by omega) (by omega)];omega
 simp -implicitDefEqProofs only [syms,symx,seval,c17,q0.lay,pol0,pol1,pol2,pol5,pol6,hv0,hv1,hv2,hv5,hv6,hl1,hl2,hl5,hl6,Bool.not_true]
 refine zaE (fun hlt=>?_) (fun hlt=>?_)
 ·obtain ⟨r,hr,hr'⟩:=za5 (l:=d.preds) (i:=i) (by omega)
  repeat' (first|simp -implicitDefEqProofs only [syms,symx,seval,c17,q0.lay,pol0,pol1,pol2,pol5,pol6,hv0,hv1,hv2,hv5,hv6,hl1,hl2,hl5,hl6,Bool.not_true]|((with_reducible  apply zaE ) <;> intro _)|with_reducible_and_instances refine zsx (hd.s1.mono z.inc) ds24 sz67 (by omega) hr (fun p hp=>?_)|with_reducible_and_instances refine fdP0 hp zpV (fun q hq=>?_)|with_reducible_and_instances refine zcq hq ag9 ?_)
  ·exact h2k _ (z.upW _ _ (by omega))
  rw [hw]
  (rw [hI1];with_reducible refine zae (m:=_) ?_ ⟨i+1,_,rfl,z,⟨rfl,by omega,q0⟩,junk (by kernel_rfl)⟩;omega)
 clear hi hlt hw
 simp -implicitDefEqProofs only [syms,symx,seval,c17,q0.lay,pol0,pol1,pol2,pol5,pol6,hv0,hv1,hv2,hv5,hv6,hl1,hl2,hl5,hl6,Bool.not_true]
 obtain ⟨I2,hI2⟩:∃ I:Nat→Env→Heap→Prop,I=(fun n e h'=>∃ (i:Nat) (h1:Heap),h'=h1.lay [] h1.low∧Ext h h1∧(n=d.clears.length - i∧i≤d.clears.length∧(∀ c∈d.clears.take i,c.reads.length≤40)∧Holds h1 A0 (.row (zaw p0 p1 p2 p5 p6 q b) 29 false))∧∃ J:Nat→Value,e=(J 0::.pointer (some ⟨A0,0,none⟩)::jr J 2 2 (.int .i64 i::jr J 5 130 ([])))):=⟨_,rfl⟩
 refine zaI I2 _ (by rw [hI2];exact ⟨0,_,rfl,z,⟨rfl,by omega,by simp,q0⟩,junk (by kernel_rfl)⟩) ?_
 intro n e h' hin
 rw [hI2] at hin
 obtain ⟨i,h1',rfl,z,hinv,J,rfl⟩:=hin
 clear q0
 obtain ⟨rfl,hi,hall,q0⟩:=hinv
 have hw:IntKind.i64.wrap ((i:Int)+1)=((i+1:Nat):Int):=by rw [wrap_i64 (by omega) (by omega)];omega
 simp -implicitDefEqProofs only [syms,symx,seval,c17,q0.lay,pol0,pol1,pol2,pol5,pol6,hv0,hv1,hv2,hv5,hv6,hl1,hl2,hl5,hl6,Bool.not_true]
 refine zaE (fun hlt=>?_) (fun hlt=>?_)
 ·obtain ⟨r,hr,hr'⟩:=za5 (l:=d.clears) (i:=i) (by omega)
  repeat' (first|simp -implicitDefEqProofs only [syms,symx,seval,c17,q0.lay,pol0,pol1,pol2,pol5,pol6,hv0,hv1,hv2,hv5,hv6,hl1,hl2,hl5,hl6,Bool.not_true]|((with_reducible  apply zaE ) <;> intro _)|with_reducible_and_instances refine zzR (hd.s2.mono z.inc) ds25 sz69 (by omega) hr (fun p b hb hp=>?_)|with_reducible_and_instances refine fdP0 hp zpe (fun q hq=>?_)|with_reducible_and_instances refine zcq hq ag9 ?_|with_reducible_and_instances refine fdP1 hp ztV (fun q hq=>?_)|with_reducible_and_instances refine zcq hq ag23 ?_)
  ·exact h2k _ (z.upW _ _ (by omega))
  refine zgf r.reads _ 40 3000 _ (hb.lay _ _) _ (fun er h' x=>?_) (fun h' x=>?_)
  rotate_left
  ·((skip);replace z:=z.overW x (by (try simp only [lsz]);omega);(try replace q0:=q0.over x);rw [zaa h'])
   repeat' (first|simp -implicitDefEqProofs only [syms,symx,seval,c17,Bool.not_false]|((with_reducible_and_instances apply zal);(· rfl)))
   exact h2k _ (z.upW _ _ (by omega))
  ((skip);replace z:=z.overW x (by (try simp only [lsz]);omega);(try replace q0:=q0.over x);rw [zaa h'])
  repeat' (first|simp -implicitDefEqProofs only [syms,symx,seval,c17,Bool.not_true]|((with_reducible_and_instances apply zal);(· rfl)))
  rw [hw]
  (rw [hI2];with_reducible refine zae (m:=_) ?_ ⟨i+1,_,rfl,z,⟨rfl,by omega,zb5 (i:=i) (P:=fun c:ClearD=>c.reads.length≤40) hr' hall (by omega),q0⟩,junk (by kernel_rfl)⟩;omega)
 rw [List.take_of_length_le (by omega)] at hall
 clear hi hlt hw
 simp -implicitDefEqProofs only [syms,symx,seval,c17,q0.lay,pol0,pol1,pol2,pol5,pol6,hv0,hv1,hv2,hv5,hv6,hl1,hl2,hl5,hl6,Bool.not_true]
 obtain ⟨I3,hI3⟩:∃ I:Nat→Env→Heap→Prop,I=(fun n e h'=>∃ (i:Nat) (h1:Heap),h'=h1.lay [] h1.low∧Ext h h1∧(n=d.rules.length - i∧i≤d.rules.length∧(∀ r∈d.rules.take i,r.body.length≤9)∧Holds h1 A0 (.row (zaw p0 p1 p2 p5 p6 q b) 29 false))∧∃ J:Nat→Value,e=(J 0::.pointer (some ⟨A0,0,none⟩)::jr J 2 3 (.int .i64 i::jr J 6 129 ([])))):=⟨_,rfl⟩
 refine zaI I3 _ (by rw [hI3];exact ⟨0,_,rfl,z,⟨rfl,by omega,by simp,q0⟩,junk (by kernel_rfl)⟩) ?_
 intro n e h' hin
 rw [hI3] at hin
 obtain ⟨i,h1',rfl,z,hinv,J,rfl⟩:=hin
 clear q0
 obtain ⟨rfl,hi,hallr,q0⟩:=hinv
 have hw:IntKind.i64.wrap ((i:Int)+1)=((i+1:Nat):Int):=by rw [wrap_i64 (by omega) (by omega)];omega
 simp -implicitDefEqProofs only [syms,symx,seval,c17,q0.lay,pol0,pol1,pol2,pol5,pol6,hv0,hv1,hv2,hv5,hv6,hl1,hl2,hl5,hl6,Bool.not_true]
 refine zaE (fun hlt=>?_) (fun hlt=>?_)
 ·obtain ⟨r,hr,hr'⟩:=za5 (l:=d.rules) (i:=i) (by omega)
  repeat' (first|simp -implicitDefEqProofs only [syms,symx,seval,c17,q0.lay,pol0,pol1,pol2,pol5,pol6,hv0,hv1,hv2,hv5,hv6,hl1,hl2,hl5,hl6,Bool.not_true]|with_reducible_and_instances refine zr6 (hd.s5.mono z.inc) ds26 sz71 (by omega) hr (fun p b hb hp=>?_)|with_reducible_and_instances refine fdc0 hp zpo (fun q hq=>?_)|with_reducible_and_instances refine lda hq ag42 sz42 ?_)
  refine zge r.head _ _ (fun hlx h' x=>?_) (fun hlx h' x=>?_)
  rotate_left
  ·((skip);replace z:=z.overW x (by (try simp only [lsz]);omega);(try replace q0:=q0.over x);rw [zaa h'])
   repeat' (first|simp -implicitDefEqProofs only [syms,symx,seval,c17,Bool.not_false]|((with_reducible_and_instances apply zal);(· rfl)))
   exact h2k _ (z.upW _ _ (by omega))
  ((skip);replace z:=z.overW x (by (try simp only [lsz]);omega);(try replace q0:=q0.over x);rw [zaa h'])
  repeat' (first|simp -implicitDefEqProofs only [syms,symx,seval,c17,q0.lay,pol0,pol1,pol2,pol5,pol6,hv0,hv1,hv2,hv5,hv6,hl1,hl2,hl5,hl6,Bool.not_true]|with_reducible_and_instances refine zr6 (hd.s5.mono z.inc) ds26 sz71 (by omega) hr (fun p b hb hp=>?_)|with_reducible_and_instances refine fdc1 hp zpj (fun q hq=>?_)|with_reducible_and_instances refine zcq hq ag52 ?_|((with_reducible_and_instances apply zal);(· rfl)))
  refine zmk r.body _ 9 _ (Sl.mono (by assumption) (Inc.lay _ _ _)) _ (fun hb9 _ h' x=>?_) (fun h' x=>?_)
  rotate_left
  ·((skip);replace z:=z.overW x (by (try simp only [lsz]);omega);(try replace q0:=q0.over x);rw [zaa h'])
   repeat' (first|simp -implicitDefEqProofs only [syms,symx,seval,c17,Bool.not_false]|((with_reducible_and_instances apply zal);(· rfl)))
   exact h2k _ (z.upW _ _ (by omega))
  ((skip);replace z:=z.overW x (by (try simp only [lsz]);omega);(try replace q0:=q0.over x);rw [zaa h'])
  repeat' (first|simp -implicitDefEqProofs only [syms,symx,seval,c17,Bool.not_true]|((with_reducible_and_instances apply zal);(· rfl)))
  rw [hw]
  (rw [hI3];with_reducible refine zae (m:=_) ?_ ⟨i+1,_,rfl,z,⟨rfl,by omega,zb5 (i:=i) (P:=fun r:ClauseD=>r.body.length≤9) hr' hallr (by omega),q0⟩,junk (by kernel_rfl)⟩;omega)
 rw [List.take_of_length_le (by omega)] at hallr
 clear hi hlt hw
 simp -implicitDefEqProofs only [syms,symx,seval,c17,q0.lay,pol0,pol1,pol2,pol5,pol6,hv0,hv1,hv2,hv5,hv6,hl1,hl2,hl5,hl6,Bool.not_true]
 obtain ⟨I4,hI4⟩:∃ I:Nat→Env→Heap→Prop,I=(fun n e h'=>∃ (i:Nat) (h1:Heap),h'=h1.lay [] h1.low∧Ext h h1∧(n=d.grants.length - i∧i≤d.grants.length∧(∀ g∈d.grants.take i,g.body.length≤9)∧Holds h1 A0 (.row (zaw p0 p1 p2 p5 p6 q b) 29 false))∧∃ J:Nat→Value,e=(J 0::.pointer (some ⟨A0,0,none⟩)::jr J 2 4 (.int .i64 i::jr J 7 128 ([])))):=⟨_,rfl⟩
 refine zaI I4 _ (by rw [hI4];exact ⟨0,_,rfl,z,⟨rfl,by omega,by simp,q0⟩,junk (by kernel_rfl)⟩) ?_
 intro n e h' hin
 rw [hI4] at hin
 obtain ⟨i,h1',rfl,z,hinv,J,rfl⟩:=hin
 clear q0
 obtain ⟨rfl,hi,hallg,q0⟩:=hinv
 have hw:IntKind.i64.wrap ((i:Int)+1)=((i+1:Nat):Int):=by rw [wrap_i64 (by omega) (by omega)];omega
 simp -implicitDefEqProofs only [syms,symx,seval,c17,q0.lay,pol0,pol1,pol2,pol5,pol6,hv0,hv1,hv2,hv5,hv6,hl1,hl2,hl5,hl6,Bool.not_true]
 refine zaE (fun hlt=>?_) (fun hlt=>?_)
 rotate_left
 ·rw [List.take_of_length_le (by omega)] at hallg
  repeat' ( simp -implicitDefEqProofs only [syms,symx,seval,c17])
  exact h1k (by omega) e1 e2 hall e5 hallr e6 hallg _ (z.upW _ _ (by omega))
 obtain ⟨r,hr,hr'⟩:=za5 (l:=d.grants) (i:=i) (by omega)
 repeat' (first|simp -implicitDefEqProofs only [syms,symx,seval,c17,q0.lay,pol0,pol1,pol2,pol5,pol6,hv0,hv1,hv2,hv5,hv6,hl1,hl2,hl5,hl6,Bool.not_true]|((with_reducible  apply zaE ) <;> intro _)|with_reducible_and_instances refine zuT (hd.s6.mono z.inc) ds27 sz73 (by omega) hr (fun p b hb hp=>?_)|with_reducible_and_instances refine fdG0 hp zta (fun q hq=>?_)|with_reducible_and_instances refine zcq hq ag9 ?_|with_reducible_and_instances refine fdG1 hp zpW (fun q hq=>?_)|with_reducible_and_instances refine lda hq ag42 sz42 ?_)
 ·exact h2k _ (z.upW _ _ (by omega))
 refine zge r.head _ _ (fun hlx h' x=>?_) (fun hlx h' x=>?_)
 rotate_left
 ·((skip);replace z:=z.overW x (by (try simp only [lsz]);omega);(try replace q0:=q0.over x);rw [zaa h'])
  repeat' (first|simp -implicitDefEqProofs only [syms,symx,seval,c17,Bool.not_false]|((with_reducible_and_instances apply zal);(· rfl)))
  exact h2k _ (z.upW _ _ (by omega))
 ((skip);replace z:=z.overW x (by (try simp only [lsz]);omega);(try replace q0:=q0.over x);rw [zaa h'])
 repeat' (first|simp -implicitDefEqProofs only [syms,symx,seval,c17,q0.lay,pol0,pol1,pol2,pol5,pol6,hv0,hv1,hv2,hv5,hv6,hl1,hl2,hl5,hl6,Bool.not_true]|with_reducible_and_instances refine zuT (hd.s6.mono z.inc) ds27 sz73 (by omega) hr (fun p b hb hp=>?_)|with_reducible_and_instances refine fdG2 hp zum (fun q hq=>?_)|with_reducible_and_instances refine zcq hq ag52 ?_|((with_reducible_and_instances apply zal);(· rfl)))
 refine zmk r.body _ 9 _ (Sl.mono (by assumption) (Inc.lay _ _ _)) _ (fun hb9 _ h' x=>?_) (fun h' x=>?_)
 rotate_left
 ·((skip);replace z:=z.overW x (by (try simp only [lsz]);omega);(try replace q0:=q0.over x);rw [zaa h'])
  repeat' (first|simp -implicitDefEqProofs only [syms,symx,seval,c17,Bool.not_false]|((with_reducible_and_instances apply zal);(· rfl)))
  exact h2k _ (z.upW _ _ (by omega))
 ((skip);replace z:=z.overW x (by (try simp only [lsz]);omega);(try replace q0:=q0.over x);rw [zaa h'])
 repeat' (first|simp -implicitDefEqProofs only [syms,symx,seval,c17,Bool.not_true]|((with_reducible_and_instances apply zal);(· rfl)))
 rw [hw]
 (rw [hI4];with_reducible refine zae (m:=_) ?_ ⟨i+1,_,rfl,z,⟨rfl,by omega,zb5 (i:=i) (P:=fun g:GrantD=>g.body.length≤9) hr' hallg (by omega),q0⟩,junk (by kernel_rfl)⟩;omega)
end Go.Proofs.YtdplfgoifjjniaaGreatDoor
