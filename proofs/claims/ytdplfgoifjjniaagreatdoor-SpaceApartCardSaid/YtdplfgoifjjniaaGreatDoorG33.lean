/- The code of some functions, node by node, for simp. Written by a program (mkcode.py). No condition. -/
import Derived.Test.YtdplfgoifjjniaaGreatDoorG27
import Derived.Test.YtdplfgoifjjniaaGreatDoorG25
import Derived.KernelRfl
import Derived.Test.YtdplfgoifjjniaaGreatDoorG26
import Derived.Test.YtdplfgoifjjniaaGreatDoorG13
namespace Go.Proofs.YtdplfgoifjjniaaGreatDoor
open Go.Am
set_option linter.unusedVariables false
set_option linter.unusedSimpArgs false
set_option maxRecDepth 100000
set_option maxHeartbeats 0
noncomputable def N91:=zaz Tryz.f91
noncomputable def x91:=PLift.up (by have c:=zah N91 Tryz.f91;simp only [zan,Tryz.f91,Option.getD_some,zaj,opsF,opsX,zag,zaA,dstL,zak,List.append_eq,List.cons_append,List.nil_append,seval] at c;exact nd c <| nd @ld42 <| @fi91)
theorem c91:type_of% x91.down:=x91.down
noncomputable def N121:=zaz Tryz.f121
noncomputable def x121:=PLift.up (by have c:=zah N121 Tryz.f121;simp only [zan,Tryz.f121,Option.getD_some,zaj,opsF,opsX,zag,zaA,dstL,zak,List.append_eq,List.cons_append,List.nil_append,seval] at c;exact nd c <| @zF2)
theorem c121:type_of% x121.down:=x121.down
noncomputable def N141:=zaz Tryz.f141
noncomputable def x141:=PLift.up (by have c:=zah N141 Tryz.f141;simp only [zan,Tryz.f141,Option.getD_some,zaj,opsF,opsX,zag,zaA,dstL,zak,List.append_eq,List.cons_append,List.nil_append,seval] at c;exact nd c <| nd @zvY <| nd @ld39 <| nd @zx1 <| @zE5)
theorem c141:type_of% x141.down:=x141.down
noncomputable def N123:=zaz Tryz.f123
noncomputable def x123:=PLift.up (by have c:=zah N123 Tryz.f123;simp only [zan,Tryz.f123,Option.getD_some,zaj,opsF,opsX,zag,zaA,dstL,zak,List.append_eq,List.cons_append,List.nil_append,seval] at c;exact nd c <| nd @zpu <| nd @ld4 <| @zDx)
theorem c123:type_of% x123.down:=x123.down
noncomputable def N122:=zaz Tryz.f122
noncomputable def x122:=PLift.up (by have c:=zah N122 Tryz.f122;simp only [zan,Tryz.f122,Option.getD_some,zaj,opsF,opsX,zag,zaA,dstL,zak,List.append_eq,List.cons_append,List.nil_append,seval] at c;exact nd c <| nd @zth <| nd @zpg <| nd @ld3 <| @zFY)
theorem c122:type_of% x122.down:=x122.down
noncomputable def N42:=zaz Tryz.f42
noncomputable def x42:=PLift.up (by have c:=zah N42 Tryz.f42;simp only [zan,Tryz.f42,Option.getD_some,zaj,opsF,opsX,zag,zaA,dstL,zak,List.append_eq,List.cons_append,List.nil_append,seval] at c;exact nd c <| nd @ld42 <| @fi42)
theorem c42:type_of% x42.down:=x42.down
noncomputable def N69:=zaz Tryz.f69
noncomputable def x69:=PLift.up (by have c:=zah N69 Tryz.f69;simp only [zan,Tryz.f69,Option.getD_some,zaj,opsF,opsX,zag,zaA,dstL,zak,List.append_eq,List.cons_append,List.nil_append,seval] at c;exact nd c <| nd @ix52 <| nd @ld42 <| nd @ln52 <| @fi69)
theorem c69:type_of% x69.down:=x69.down
end Go.Proofs.YtdplfgoifjjniaaGreatDoor
namespace Go.Proofs.YtdplfgoifjjniaaGreatDoor
open Go.Am
set_option linter.unusedSimpArgs false
set_option linter.unusedVariables false
set_option maxRecDepth 100000
set_option maxHeartbeats 0
theorem zmh (l:List TermD) (v fv:Value) (pr:TermD→Bool) (h:Heap) (hl:Sl Rep.term h v l) (hs:l.length≤1000) (hpf:∀ (x:TermD) (hc:Heap) (K:Value→Heap→Prop),Ext h hc→(∀ h',Ext hc h'→K (.bool (pr x)) h')→zg4 Tryz.prog tab ov [x.val] hc K fv) (K:Value→Heap→Prop)
 (hk:∀ h',Ext h h'→K (.int .i64 (idxP pr l)) h'):Ok Tryz.prog tab ov 141 [v,fv] h K:=by
 rw [zaa h]
 have z:=Ext.refl h
 refine Ok.into rfl zr5 (zaB N141) rfl (m:=17) rfl ?_
 simp -implicitDefEqProofs only [syms,symx,seval,c141]
 repeat' (( with_reducible_and_instances refine zi5 hl ziG ?_) <;> simp -implicitDefEqProofs only [syms,symx,seval,c141])
 obtain ⟨I1,hI1⟩:∃ I:Nat→Env→Heap→Prop,I=(fun n e h'=>∃ (i:Nat) (h1:Heap),h'=h1.lay [] h1.low∧Ext h h1∧(n=l.length - i∧i≤l.length∧∀ x∈l.take i,pr x=false)∧∃ J:Nat→Value,e=(v::fv::jr J 2 5 (.int .i64 l.length::.int .i64 i::jr J 9 10 ([])))):=⟨_,rfl⟩
 refine zaI I1 _ (by rw [hI1];exact ⟨0,_,rfl,z,⟨rfl,by omega,by simp⟩,junk (by kernel_rfl)⟩) ?_
 intro n e h' hin
 rw [hI1] at hin
 obtain ⟨i,h1',rfl,z,hinv,J,rfl⟩:=hin
 obtain ⟨rfl,hi,hall⟩:=hinv
 have hw:IntKind.i64.wrap ((i:Int)+1)=((i+1:Nat):Int):=by rw [wrap_i64 (by omega) (by omega)];omega
 repeat' (first|simp -implicitDefEqProofs only [syms,symx,seval,c141]|((with_reducible  apply zaE ) <;> intro _))
 rotate_left
 ·rw [List.take_of_length_le (by omega)] at hall
  have:=zhW hall
  rw [this] at hk
  exact hk _ (z.upW _ _ (by omega))
 obtain ⟨r,hr,hr'⟩:=za5 (l:=l) (i:=i) (by assumption)
 repeat' ((first|with_reducible_and_instances refine zm1 (hl.mono z.inc) ziG sz39 (by omega) hr (fun p hp=>?_)|with_reducible_and_instances refine ldt hp ag39 sz39 ?_) <;> simp -implicitDefEqProofs only [syms,symx,seval,c141])
 refine hpf _ _ _ (z.upW _ _ (by omega)) (fun h' x=>?_)
 ((skip);replace z:=z.overW x (by (try simp only [lsz]);omega);rw [zaa h'])
 cases hx:pr r
 rotate_left
 ·simp -implicitDefEqProofs only [syms,symx,seval,c141]
  have:=zgr hr' hall hx
  rw [this] at hk
  exact hk _ (z.upW _ _ (by omega))
 ·simp -implicitDefEqProofs only [syms,symx,seval,c141]
  rw [hw]
  (rw [hI1];with_reducible refine zae (m:=_) ?_ ⟨i+1,_,rfl,z,⟨rfl,by omega,zb5 (i:=i) (P:=fun x:TermD=>pr x=false) hr' hall hx⟩,junk (by kernel_rfl)⟩;omega)
theorem ze8 (l:List TermD) (v fv:Value) (pr:TermD→Bool) (h:Heap) (hl:Sl Rep.term h v l) (hs:l.length≤1000) (hpf:∀ (x:TermD) (hc:Heap) (K:Value→Heap→Prop),Ext h hc→(∀ h',Ext hc h'→K (.bool (pr x)) h')→zg4 Tryz.prog tab ov [x.val] hc K fv) (K:Value→Heap→Prop)
 (hk:∀ h',Ext h h'→K (.bool (l.any pr)) h'):Ok Tryz.prog tab ov 121 [v,fv] h K:=by
 refine Ok.into rfl ztz (zaB N121) rfl (m:=7) rfl ?_
 simp -implicitDefEqProofs only [syms,symx,seval,c121]
 refine zmh l v fv pr h hl hs hpf _ (fun h' x=>?_)
 simp -implicitDefEqProofs only [syms,symx,seval,c121,zlr]
 refine zvm (fun hh=>?_) (fun hh=>?_)
 all_goals
  simp -implicitDefEqProofs only [syms,symx,seval,c121]
  rw [hh] at hk
  exact hk _ x
theorem zqM (x:TermD) (h:Heap) (K:Value→Heap→Prop) (hk:∀ h',Ext h h'→K (.bool x.v) h'):Ok Tryz.prog tab ov 123 [x.val] h K:=by
 rw [zaa h]
 unfold TermD.val TermD.cells
 refine Ok.into rfl zsV (zaB N123) rfl (m:=4) rfl ?_
 simp -implicitDefEqProofs only [syms,symx,seval,c123]
 refine zvm (fun hh=>?_) (fun hh=>?_)
 all_goals
  simp -implicitDefEqProofs only [syms,symx,seval,c123]
  rw [hh] at hk
  exact hk _ ((Ext.refl h).upW _ _ (by omega))
theorem sl40 (A o:Nat) (k:Int) (h0:0≤k) (h4:k≤4):zbn tab 40 (.pointer (some ⟨A,o,none⟩)) none (some (.int .i64 k)) none=some (.slice (some ⟨A,o,none⟩) k.toNat 4):=by
 have hG:4 < G:=by decide
 simp only [zbn,ds40,zbJ,zg1,if_pos hG,Option.bind_some]
 rw [if_pos ⟨h0,by omega⟩]
 simp [sz39]
theorem zi9 (a:AtomD) (h:Heap) (K:Value→Heap→Prop) (hk:∀ w h',Ext h h'→Sl Rep.term h' w a.args→K w h'):Ok Tryz.prog tab ov 122 [a.val] h K:=by
 rw [zaa h]
 have z:=Ext.refl h
 unfold AtomD.val AtomD.cells
 refine Ok.into rfl zuP (zaB N122) rfl (m:=8) rfl ?_
 simp -implicitDefEqProofs only [syms,symx,seval,c122]
 refine zBO rfl rfl ?_
 simp -implicitDefEqProofs only [syms,symx,seval,c122]
 refine zAU rfl rfl ?_
 simp -implicitDefEqProofs only [syms,symx,seval,c122]
 rw [sl40 _ _ _ (by split <;> split <;> omega) (by split <;> split <;> omega)]
 simp -implicitDefEqProofs only [syms,symx,seval,c122]
 have hc:(if 4 < (if a.n < 0 then 0 else a.n) then 4 else (if a.n < 0 then 0 else a.n)).toNat=a.cnt:=by
  unfold AtomD.cnt
  split <;> split <;> omega
 rw [hc]
 exact hk _ _ (z.upW _ _ (by omega)) (zAT (a:=a) ⟨by rw [zad];simp,by rw [zbj];rfl⟩ rfl)
theorem zsv (a:AtomD) (h:Heap) (K:Value→Heap→Prop) (hk:∀ h',Ext h h'→K (.bool a.ground) h'):Ok Tryz.prog tab ov 91 [a.val] h K:=by
 rw [zaa h]
 have z:=Ext.refl h
 unfold AtomD.val AtomD.cells
 refine Ok.into rfl zww (zaB N91) rfl (m:=6) rfl ?_
 simp -implicitDefEqProofs only [syms,symx,seval,c91]
 refine zi9 a _ _ (fun w h' x ha=>?_)
 ((skip);replace z:=z.overW x (by (try simp only [lsz]);omega);(try replace ha:=ha.over x);rw [zaa h'])
 simp -implicitDefEqProofs only [syms,symx,seval,c91]
 have hcn:a.args.length≤1000:=by rw [zbw];unfold AtomD.cnt;omega
 refine ze8 _ _ _ (fun t=>t.v) _ (ha.lay _ _) hcn (fun t hc K' _ hK=>by rw [za3];exact zqM t hc K' hK) _ (fun h' x=>?_)
 ((skip);replace z:=z.overW x (by (try simp only [lsz]);omega);(try replace ha:=ha.over x);rw [zaa h'])
 simp -implicitDefEqProofs only [syms,symx,seval,c91]
 refine zal rfl ?_
 simp -implicitDefEqProofs only [syms,symx,seval,c91]
 exact hk _ (z.upW _ _ (by omega))
theorem zl1 (l:List AtomD) (v:Value) (a:AtomD) (h:Heap) (hl:Sl Rep.atom h v l) (hs:l.length≤1000) (K:Value→Heap→Prop)
 (hk:∀ h',Ext h h'→K (.int .i64 (idxP (fun x=>decide (a=x)) l)) h'):Ok Tryz.prog tab ov 69 [v,a.val] h K:=by
 rw [zaa h]
 have z:=Ext.refl h
 refine Ok.into rfl zzd (zaB N69) rfl (m:=17) rfl ?_
 simp -implicitDefEqProofs only [syms,symx,seval,c69,zas]
 repeat' (( with_reducible_and_instances refine zi5 hl ds52 ?_) <;> simp -implicitDefEqProofs only [syms,symx,seval,c69])
 refine zd8 (fun h' x hq=>?_)
 have q0:=hq 0 _ rfl
 clear hq
 (replace z:=z.overW x (by (try simp only [lsz]);omega);rw [zaa h'])
 obtain ⟨I1,hI1⟩:∃ I:Nat→Env→Heap→Prop,I=(fun n e h'=>∃ (i:Nat) (h1:Heap),h'=h1.lay [] h1.low∧Ext h h1∧(n=l.length - i∧i≤l.length∧(∀ x∈l.take i,decide (a=x)=false)∧Holds h1 (h.size+0) (.row a.cells 42 false))∧∃ J:Nat→Value,e=(v::jr J 1 2 (.pointer (some ⟨h.size+0,0,none⟩)::jr J 4 3 (.int .i64 l.length::.int .i64 i::jr J 9 10 ([]))))):=⟨_,rfl⟩
 refine zaI I1 _ (by rw [hI1];exact ⟨0,_,rfl,z,⟨rfl,by omega,by simp,q0⟩,junk (by kernel_rfl)⟩) ?_
 intro n e h' hin
 rw [hI1] at hin
 obtain ⟨i,h1',rfl,z,hinv,J,rfl⟩:=hin
 obtain ⟨rfl,hi,hall,q0⟩:=hinv
 have hw:IntKind.i64.wrap ((i:Int)+1)=((i+1:Nat):Int):=by rw [wrap_i64 (by omega) (by omega)];omega
 simp -implicitDefEqProofs only [syms,symx,seval,c69]
 refine zaE (fun hlt=>?_) (fun hlt=>?_)
 rotate_left
 ·simp -implicitDefEqProofs only [syms,symx,seval,c69]
  rw [List.take_of_length_le (by omega)] at hall
  have:=zhW hall
  rw [this] at hk
  exact hk _ (z.upW _ _ (by omega))
 obtain ⟨r,hr,hr'⟩:=za5 (l:=l) (i:=i) hlt
 simp -implicitDefEqProofs only [syms,symx,seval,c69]
 repeat' ((first|((with_reducible  apply zaE ) <;> intro _)|with_reducible_and_instances refine zgu (hl.mono z.inc) ds52 sz42 (by omega) hr (fun p hp=>?_)|with_reducible_and_instances refine lda hp ag42 sz42 ?_|with_reducible refine zbT (by simp only [c69]) (z.upW _ _ (by omega)) ?_|((with_reducible refine ⟨z.grw.lay _ _,?_⟩);(intro _ h' zz x _);(try simp only [zat,List.append_nil] at x);(try replace q0:=q0.over x);(replace z:=zz);(clear zz);rw [zaa h'])) <;> simp -implicitDefEqProofs only [syms,symx,seval,c69,q0.lay,↓zaG,zaD,zto,zar])
 ·have:=zgr (p:=fun x=>decide (a=x)) hr' hall (by simpa using (by assumption:a=r))
  rw [this] at hk
  exact hk _ (z.upW _ _ (by omega))
 ·rw [hw]
  (rw [hI1];with_reducible refine zae (m:=_) ?_ ⟨i+1,_,rfl,z,⟨rfl,by omega,zb5 (i:=i) (P:=fun x:AtomD=>decide (a=x)=false) hr' hall (by simpa using (by assumption:¬ a=r)),q0⟩,junk (by kernel_rfl)⟩;omega)
theorem zi4 (l:List AtomD) (v:Value) (a:AtomD) (h:Heap) (hl:Sl Rep.atom h v l) (hs:l.length≤1000) (K:Value→Heap→Prop)
 (hk:∀ h',Ext h h'→K (.bool (decide (a∈l))) h'):Ok Tryz.prog tab ov 42 [v,a.val] h K:=by
 rw [zaa h]
 have z:=Ext.refl h
 refine Ok.into rfl zxt (zaB N42) rfl (m:=7) rfl ?_
 simp -implicitDefEqProofs only [syms,symx,seval,c42,zas,↓zaG,zaD,zar]
 refine zl1 l _ a _ (hl.lay _ _) hs _ (fun h' x=>?_)
 ((skip);replace z:=z.overW x (by (try simp only [lsz]);omega);(try replace q0:=q0.over x);rw [zaa h'])
 simp -implicitDefEqProofs only [syms,symx,seval,c42,zCb]
 refine zaE (fun hh=>?_) (fun hh=>?_)
 ·simp -implicitDefEqProofs only [syms,symx,seval,c42]
  rw [decide_eq_true hh] at hk
  exact hk _ (z.upW _ _ (by omega))
 ·simp -implicitDefEqProofs only [syms,symx,seval,c42]
  rw [decide_eq_false hh] at hk
  exact hk _ (z.upW _ _ (by omega))
end Go.Proofs.YtdplfgoifjjniaaGreatDoor
