/- Walks: what is gone through, on; lists of one's own. Written out by fill2.py. No condition. -/
import Derived.Test.YtdplfgoifjjniaaGreatDoorG37
import Derived.Test.YtdplfgoifjjniaaGreatDoorG13
import Derived.Test.YtdplfgoifjjniaaGreatDoorG27
import Derived.Test.YtdplfgoifjjniaaGreatDoorG25
import Derived.KernelRfl
import Derived.Test.YtdplfgoifjjniaaGreatDoorG45
namespace Go.Proofs.YtdplfgoifjjniaaGreatDoor
open Go.Am
set_option linter.unusedSimpArgs false
set_option linter.unusedVariables false
set_option maxRecDepth 100000
set_option maxHeartbeats 0
def zjv (n m:Int):Int:=if m < 1 then 0 else if n.tmod m < 0 then n.tmod m+m else n.tmod m
theorem zvK (n m:Int) (hm:1≤m):0≤zjv n m∧zjv n m < m:=by
 unfold zjv
 rw [if_neg (by omega)]
 have h1:=Int.tmod_lt_of_pos n (show 0 < m by omega)
 have h2:=Int.lt_tmod_of_pos n (show 0 < m by omega)
 split <;> omega
theorem zBn (n m:Int) (h:Heap) (K:Value→Heap→Prop) (hm:m≤4611686018427387904) (hk:K (.int .i64 (zjv n m)) h):Ok Tryz.prog tab ov 9 [.int .i64 n,.int .i64 m] h K:=by
 refine Ok.into rfl zBE (zaB N9) rfl (m:=15) rfl ?_
 simp -implicitDefEqProofs only [syms,symx,seval,c9]
 refine zaE (fun c=>?_) (fun c=>?_)
 ·simp -implicitDefEqProofs only [syms,symx,seval,c9]
  have:zjv n m=0:=by unfold zjv;rw [if_pos c]
  rw [this] at hk
  exact hk
 have hb:=zvK n m (by omega)
 have hd:zjv n m=if n.tmod m < 0 then n.tmod m+m else n.tmod m:=by unfold zjv;rw [if_neg c]
 simp -implicitDefEqProofs only [syms,symx,seval,c9]
 rw [zBh (by omega)]
 simp -implicitDefEqProofs only [syms,symx,seval,c9]
 refine zaE (fun c2=>?_) (fun c2=>?_)
 ·rw [if_pos c2] at hd
  rw [hd] at hk hb
  simp -implicitDefEqProofs only [syms,symx,seval,c9]
  rw [wrap_i64 (by omega) (by omega)]
  exact hk
 ·rw [if_neg c2] at hd
  rw [hd] at hk
  simp -implicitDefEqProofs only [syms,symx,seval,c9]
  exact hk
end Go.Proofs.YtdplfgoifjjniaaGreatDoor
namespace Go.Proofs.YtdplfgoifjjniaaGreatDoor
open Go.Am
set_option linter.unusedVariables false
set_option linter.unusedSimpArgs false
set_option maxRecDepth 100000
set_option maxHeartbeats 0
noncomputable def N18:=zaz Tryz.f18
noncomputable def x18:=PLift.up (by have c:=zah N18 Tryz.f18;simp only [zan,Tryz.f18,Option.getD_some,zaj,opsF,opsX,zag,zaA,dstL,zak,List.append_eq,List.cons_append,List.nil_append,seval] at c;exact nd c <| nd @zho <| nd @zkq <| nd @ix48 <| nd @ld42 <| nd @ld9 <| nd @ln48 <| nd @ln9 <| @fi18)
theorem c18:type_of% x18.down:=x18.down
noncomputable def N5:=zaz Tryz.f5
noncomputable def x5:=PLift.up (by have c:=zah N5 Tryz.f5;simp only [zan,Tryz.f5,Option.getD_some,zaj,opsF,opsX,zag,zaA,dstL,zak,List.append_eq,List.cons_append,List.nil_append,seval] at c;exact nd c <| nd @zki <| nd @zho <| nd @ix23 <| nd @ix48 <| nd @ld23 <| nd @ld29 <| nd @ld57 <| nd @ld9 <| nd @ln23 <| nd @ln48 <| @fi5)
theorem c5:type_of% x5.down:=x5.down
noncomputable def N4:=zaz Tryz.f4
noncomputable def x4:=PLift.up (by have c:=zah N4 Tryz.f4;simp only [zan,Tryz.f4,Option.getD_some,zaj,opsF,opsX,zag,zaA,dstL,zak,List.append_eq,List.cons_append,List.nil_append,seval] at c;exact nd c <| nd @zgz <| nd @zsI <| nd @zho <| nd @zkq <| nd @ix48 <| nd @ld29 <| nd @ld3 <| nd @ld42 <| nd @ld9 <| nd @ln48 <| nd @ln9 <| @fi4)
theorem c4:type_of% x4.down:=x4.down
noncomputable def N3:=zaz Tryz.f3
noncomputable def x3:=PLift.up (by have c:=zah N3 Tryz.f3;simp only [zan,Tryz.f3,Option.getD_some,zaj,opsF,opsX,zag,zaA,dstL,zak,List.append_eq,List.cons_append,List.nil_append,seval] at c;exact nd c <| nd @al29 <| nd @bs23 <| nd @zmV <| nd @ld29 <| nd @ld3 <| @fi3)
theorem c3:type_of% x3.down:=x3.down
noncomputable def N6:=zaz Tryz.f6
noncomputable def x6:=PLift.up (by have c:=zah N6 Tryz.f6;simp only [zan,Tryz.f6,Option.getD_some,zaj,opsF,opsX,zag,zaA,dstL,zak,List.append_eq,List.cons_append,List.nil_append,seval] at c;exact nd c <| nd @zki <| nd @zmV <| nd @zgz <| nd @zsI <| nd @zho <| nd @zkq <| nd @ix23 <| nd @ix48 <| nd @ix52 <| nd @ld23 <| nd @ld29 <| nd @ld3 <| nd @ld42 <| nd @ld9 <| nd @ln23 <| nd @ln48 <| nd @ln52 <| @fi6)
theorem c6:type_of% x6.down:=x6.down
noncomputable def N13:=zaz Tryz.f13
noncomputable def x13:=PLift.up (by have c:=zah N13 Tryz.f13;simp only [zan,Tryz.f13,Option.getD_some,zaj,opsF,opsX,zag,zaA,dstL,zak,List.append_eq,List.cons_append,List.nil_append,seval] at c;exact nd c <| @fi13)
noncomputable def N12:=zaz Tryz.f12
noncomputable def x12:=PLift.up (by have c:=zah N12 Tryz.f12;simp only [zan,Tryz.f12,Option.getD_some,zaj,opsF,opsX,zag,zaA,dstL,zak,List.append_eq,List.cons_append,List.nil_append,seval] at c;exact nd c <| nd @al42 <| nd @zpu <| nd @zpg <| nd @ix23 <| nd @ix40 <| nd @ld42 <| nd @ld9 <| nd @ln23 <| @fi12)
noncomputable def N8:=zaz Tryz.f8
noncomputable def x8:=PLift.up (by have c:=zah N8 Tryz.f8;simp only [zan,Tryz.f8,Option.getD_some,zaj,opsF,opsX,zag,zaA,dstL,zak,List.append_eq,List.cons_append,List.nil_append,seval] at c;exact nd c <| nd @al29 <| nd @bs23 <| nd @bs24 <| nd @bs25 <| nd @bs26 <| nd @bs27 <| nd @bs52 <| nd @fi8 <| @ld29)
end Go.Proofs.YtdplfgoifjjniaaGreatDoor
namespace Go.Proofs.YtdplfgoifjjniaaGreatDoor
open Go.Am
set_option linter.unusedSimpArgs false
set_option linter.unusedVariables false
set_option maxRecDepth 100000
set_option maxHeartbeats 0
theorem zp0 (k:Int):(zjv k 2=0)↔k.tmod 2=0:=by
 unfold zjv
 rw [if_neg (by omega)]
 have h1:=Int.tmod_lt_of_pos k (show (0:Int) < 2 by omega)
 have h2:=Int.lt_tmod_of_pos k (show (0:Int) < 2 by omega)
 split <;> omega
theorem zmW (l:List ActD) (v:Value) (h:Heap) (hl:Sl Rep.act h v l) (K:Value→Heap→Prop)
 (h1k:l.length≤60→(∀ c∈l,c.s.size≤300∧c.a.light=true)→∀ h',Ext h h'→K (.bool true) h') (h2k:∀ h',Ext h h'→K (.bool false) h'):Ok Tryz.prog tab ov 18 [v] h K:=by
 rw [zaa h]
 have z:=Ext.refl h
 have hvv:=zaQ v
 have hlv:=fun (hh:Heap)=>hl.lenA ds48 hh
 refine Ok.into rfl zyL (zaB N18) rfl (m:=28) rfl ?_
 simp -implicitDefEqProofs only [syms,symx,seval,c18]
 obtain ⟨I1,hI1⟩:∃ I:Nat→Env→Heap→Prop,I=(fun n e h'=>∃ (i:Nat) (h1:Heap),h'=h1.lay [] h1.low∧Ext h h1∧(n=l.length - i∧i≤l.length∧(∀ c∈l.take i,c.s.size≤300∧c.a.light=true))∧∃ J:Nat→Value,e=(v::jr J 1 2 (.int .i64 i::jr J 4 25 ([])))):=⟨_,rfl⟩
 refine zaI I1 _ (by rw [hI1];exact ⟨0,_,rfl,z,⟨rfl,by omega,by simp⟩,junk (by kernel_rfl)⟩) ?_
 intro n e h' hin
 rw [hI1] at hin
 obtain ⟨i,h1',rfl,z,hinv,J,rfl⟩:=hin
 obtain ⟨rfl,hi,hall⟩:=hinv
 have hle:=hl.le
 simp -implicitDefEqProofs only [syms,symx,seval,c18,hvv,hlv]
 refine zaE (fun hlt=>?_) (fun hge=>?_)
 ·obtain ⟨r,hr,hr'⟩:=za5 (l:=l) (i:=i) (by omega)
  have hwi:IntKind.i64.wrap ((i:Int)+1)=((i+1:Nat):Int):=by unfold maxLen at hle;rw [wrap_i64 (by omega) (by omega)];omega
  simp -implicitDefEqProofs only [syms,symx,seval,c18,hvv]
  repeat' ((first|((with_reducible  apply zaE ) <;> intro _)|with_reducible_and_instances refine zrT (hl.mono z.inc) ds48 sz57 (by omega) hr (fun p hp=>?_)|with_reducible_and_instances refine zpv hp zho (fun qq hq=>?_)|with_reducible_and_instances refine zcq hq ag9 ?_|with_reducible_and_instances refine zso hp zkq (fun qq hq=>?_)|with_reducible_and_instances refine lda hq ag42 sz42 ?_|((with_reducible_and_instances refine zge _ _ _ (fun hla h' x=>?_) (fun hla h' x=>?_)) <;> ((skip);replace z:=z.overW x (by (try simp only [lsz]);omega);rw [zaa h']))|((with_reducible_and_instances apply zal);(· rfl))) <;> simp -implicitDefEqProofs only [syms,symx,seval,c18,hvv])
  all_goals first
   |exact h2k _ (z.upW _ _ (by omega))
   |(rw [hwi]
     (rw [hI1];with_reducible refine zae (m:=_) ?_ ⟨i+1,_,rfl,z,⟨rfl,by omega,zb5 (i:=i) (P:=fun c:ActD=>c.s.size≤300∧c.a.light=true) hr' hall ⟨by omega,hla⟩⟩,junk (by kernel_rfl)⟩;omega))
 ·rw [List.take_of_length_le (by omega)] at hall
  simp -implicitDefEqProofs only [syms,symx,seval,c18,hvv,hlv]
  refine zaE (fun hle=>?_) (fun hgt=>?_)
  ·simp -implicitDefEqProofs only [syms,symx,seval,c18]
   exact h1k (by omega) hall _ (z.upW _ _ (by omega))
  ·simp -implicitDefEqProofs only [syms,symx,seval,c18]
   exact h2k _ (z.upW _ _ (by omega))
end Go.Proofs.YtdplfgoifjjniaaGreatDoor
