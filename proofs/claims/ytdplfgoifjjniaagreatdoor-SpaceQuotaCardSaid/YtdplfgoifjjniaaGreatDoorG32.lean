/- The code of some functions, node by node, for simp. Written by a program (mkcode.py). No condition. -/
import Derived.Test.YtdplfgoifjjniaaGreatDoorG20
set_option linter.unusedSimpArgs false
set_option linter.unusedVariables false
set_option maxRecDepth 100000
set_option maxHeartbeats 0
namespace Go.Proofs.YtdplfgoifjjniaaGreatDoor
open Go.Am
noncomputable def N91:=zax Tryz.f91
noncomputable def x91:=PLift.up (by have c:=zag N91 Tryz.f91;simp only [nEqs,Tryz.f91,seval] at c;exact nd c <| nd @ld42 <| @fi91)
theorem c91:type_of% x91.down:=x91.down
noncomputable def N121:=zax Tryz.f121
noncomputable def x121:=PLift.up (by have c:=zag N121 Tryz.f121;simp only [nEqs,Tryz.f121,seval] at c;exact nd c <| @zDw)
theorem c121:type_of% x121.down:=x121.down
noncomputable def N141:=zax Tryz.f141
noncomputable def x141:=PLift.up (by have c:=zag N141 Tryz.f141;simp only [nEqs,Tryz.f141,seval] at c;exact nd c <| nd @zvj <| nd @ld39 <| nd @zvm <| @zDL)
theorem c141:type_of% x141.down:=x141.down
noncomputable def N123:=zax Tryz.f123
noncomputable def x123:=PLift.up (by have c:=zag N123 Tryz.f123;simp only [nEqs,Tryz.f123,seval] at c;exact nd c <| nd @zpg <| nd @ld4 <| @zDy)
theorem c123:type_of% x123.down:=x123.down
noncomputable def N122:=zax Tryz.f122
noncomputable def x122:=PLift.up (by have c:=zag N122 Tryz.f122;simp only [nEqs,Tryz.f122,seval] at c;exact nd c <| nd @zsh <| nd @zsi <| nd @ld3 <| @zDx)
theorem c122:type_of% x122.down:=x122.down
theorem zmD (l:List TermD) (v fv:Value) (pr:TermD→Bool) (h:Heap) (hl:Sl Rep.term h v l) (hs:l.length≤1000) (hpf:∀ (x:TermD) (hc:Heap) (K:Value→Heap→Prop),Ext h hc→(∀ h',Ext hc h'→K (.bool (pr x)) h')→zgS Tryz.prog tab ov [x.val] hc K fv) (K:Value→Heap→Prop)
 (hk:∀ h',Ext h h'→K (.int .i64 (idxP pr l)) h'):Ok Tryz.prog tab ov 141 [v,fv] h K:=by
 rw [zaa h]
 have z:=Ext.refl h
 refine Ok.into rfl zt6 (zaw N141) rfl (m:=17) rfl ?_
 simp -implicitDefEqProofs only [syms,symx,seval,c141]
 repeat' ((with_reducible_and_instances refine zsB hl zh8 ?_) <;> simp -implicitDefEqProofs only [syms,symx,seval,c141])
 obtain ⟨I1,hI1⟩:∃ I:Nat→Env→Heap→Prop,I=(fun n e h'=>∃ (i:Nat) (h1:Heap),h'=h1.lay [] h1.low∧Ext h h1∧(n=l.length - i∧i≤l.length∧∀ x∈l.take i,pr x=false)∧∃ J:Nat→Value,e=(v::fv::jr J 2 5 (.int .i64 l.length::.int .i64 i::jr J 9 10 ([])))):=⟨_,rfl⟩
 refine zaE I1 _ (by rw [hI1];exact ⟨0,_,rfl,z,⟨rfl,by omega,by simp⟩,junk (by kernel_rfl)⟩) ?_
 intro n e h' hin
 rw [hI1] at hin
 obtain ⟨i,h1',rfl,z,hinv,J,rfl⟩:=hin
 obtain ⟨rfl,hi,hall⟩:=hinv
 have hw:=zcl i (by omega)
 repeat' (first|simp -implicitDefEqProofs only [syms,symx,seval,c141]|((with_reducible apply zaD) <;> intro _))
 rotate_left
 ·rw [List.take_of_length_le (by omega)] at hall
  have:=zkX hall
  rw [this] at hk
  exact hk _ (z.upW _ _ (by omega))
 obtain ⟨r,hr,hr'⟩:=zbs (l:=l) (i:=i) (by assumption)
 repeat' ((first|with_reducible_and_instances refine zmm (hl.mono z.inc) zh8 sz39 (by omega) hr (fun p hp=>?_)|with_reducible_and_instances refine ldt hp ag39 sz39 ?_) <;> simp -implicitDefEqProofs only [syms,symx,seval,c141])
 refine hpf _ _ _ (z.upW _ _ (by omega)) (fun h' x=>?_)
 (replace z:=z.overW x (by omega);rw [zaa h'])
 cases hx:pr r
 rotate_left
 ·simp -implicitDefEqProofs only [syms,symx,seval,c141]
  have:=zin hr' hall hx
  rw [this] at hk
  exact hk _ (z.upW _ _ (by omega))
 ·simp -implicitDefEqProofs only [syms,symx,seval,c141]
  rw [hw]
  (rw [hI1];with_reducible refine zae (m:=_) ?_ ⟨i+1,_,rfl,z,⟨rfl,by omega,zeC (i:=i) (P:=fun x:TermD=>pr x=false) hr' hall hx⟩,junk (by kernel_rfl)⟩;omega)
theorem zfc (l:List TermD) (v fv:Value) (pr:TermD→Bool) (h:Heap) (hl:Sl Rep.term h v l) (hs:l.length≤1000) (hpf:∀ (x:TermD) (hc:Heap) (K:Value→Heap→Prop),Ext h hc→(∀ h',Ext hc h'→K (.bool (pr x)) h')→zgS Tryz.prog tab ov [x.val] hc K fv) (K:Value→Heap→Prop)
 (hk:∀ h',Ext h h'→K (.bool (l.any pr)) h'):Ok Tryz.prog tab ov 121 [v,fv] h K:=by
 refine Ok.into rfl ztU (zaw N121) rfl (m:=7) rfl ?_
 simp -implicitDefEqProofs only [syms,symx,seval,c121]
 refine zmD l v fv pr h hl hs hpf _ (fun h' x=>?_)
 simp -implicitDefEqProofs only [syms,symx,seval,c121,zn9]
 refine zvb (fun hh=>?_) (fun hh=>?_)
 all_goals
  simp -implicitDefEqProofs only [syms,symx,seval,c121]
  rw [hh] at hk
  exact hk _ x
theorem zqE (x:TermD) (h:Heap) (K:Value→Heap→Prop) (hk:∀ h',Ext h h'→K (.bool x.v) h'):Ok Tryz.prog tab ov 123 [x.val] h K:=by
 rw [zaa h]
 unfold TermD.val TermD.cells
 refine Ok.into rfl ztW (zaw N123) rfl (m:=4) rfl ?_
 simp -implicitDefEqProofs only [syms,symx,seval,c123]
 refine zvb (fun hh=>?_) (fun hh=>?_)
 all_goals
  simp -implicitDefEqProofs only [syms,symx,seval,c123]
  rw [hh] at hk
  exact hk _ ((Ext.refl h).upW _ _ (by omega))
theorem sl40 (A o:Nat) (k:Int) (h0:0≤k) (h4:k≤4):zbl tab 40 (.pointer (some ⟨A,o,none⟩)) none (some (.int .i64 k)) none=some (.slice (some ⟨A,o,none⟩) k.toNat 4):=by
 have hG:4 < G:=by decide
 simp only [zbl,ds40,zbH,zgQ,if_pos hG,Option.bind_some]
 rw [if_pos ⟨h0,by omega⟩]
 simp [sz39]
theorem zix (a:AtomD) (h:Heap) (K:Value→Heap→Prop) (hk:∀ w h',Ext h h'→Sl Rep.term h' w a.args→K w h'):Ok Tryz.prog tab ov 122 [a.val] h K:=by
 rw [zaa h]
 have z:=Ext.refl h
 unfold AtomD.val AtomD.cells
 refine Ok.into rfl ztV (zaw N122) rfl (m:=8) rfl ?_
 simp -implicitDefEqProofs only [syms,symx,seval,c122]
 refine zy1 rfl rfl ?_
 simp -implicitDefEqProofs only [syms,symx,seval,c122]
 refine zf4 rfl rfl ?_
 simp -implicitDefEqProofs only [syms,symx,seval,c122]
 rw [sl40 _ _ _ (by split <;> split <;> omega) (by split <;> split <;> omega)]
 simp -implicitDefEqProofs only [syms,symx,seval,c122]
 have hc:(if 4 < (if a.n < 0 then 0 else a.n) then 4 else (if a.n < 0 then 0 else a.n)).toNat=a.cnt:=by
  unfold AtomD.cnt
  split <;> split <;> omega
 rw [hc]
 exact hk _ _ (z.upW _ _ (by omega)) (zzk (a:=a) ⟨by rw [zad];simp,by rw [zbd];rfl⟩ rfl)
theorem zsP (a:AtomD) (h:Heap) (K:Value→Heap→Prop) (hk:∀ h',Ext h h'→K (.bool a.ground) h'):Ok Tryz.prog tab ov 91 [a.val] h K:=by
 rw [zaa h]
 have z:=Ext.refl h
 unfold AtomD.val AtomD.cells
 refine Ok.into rfl zwU (zaw N91) rfl (m:=6) rfl ?_
 simp -implicitDefEqProofs only [syms,symx,seval,c91]
 refine zix a _ _ (fun w h' x ha=>?_)
 (replace z:=z.overW x (by omega);rw [zaa h'])
 simp -implicitDefEqProofs only [syms,symx,seval,c91]
 have hcn:a.args.length≤1000:=by rw [zbt];unfold AtomD.cnt;omega
 refine zfc _ _ _ (fun t=>t.v) _ (ha.lay _ _) hcn (fun t hc K' _ hK=>by rw [za1];exact zqE t hc K' hK) _ (fun h' x=>?_)
 (replace z:=z.overW x (by omega);(replace ha:=ha.over x);rw [zaa h'])
 simp -implicitDefEqProofs only [syms,symx,seval,c91]
 refine zar rfl ?_
 simp -implicitDefEqProofs only [syms,symx,seval,c91]
 exact hk _ (z.upW _ _ (by omega))
end Go.Proofs.YtdplfgoifjjniaaGreatDoor

namespace Go.Proofs.YtdplfgoifjjniaaGreatDoor
open Go.Am
theorem ziJ (a:Int):zaJ Tryz.prog (Next.value <$> convert 3 154 (.int .i64 a))=some (Next.value (.int .u64 (IntKind.u64.wrap a))):=by rfl
theorem ziK (a:Int):zaJ Tryz.prog (Next.value <$> convert 154 3 (.int .u64 a))=some (Next.value (.int .i64 (IntKind.i64.wrap a))):=by rfl
theorem zh0 {T:Tab} {t:TypeId} {k kd:IntKind} {a b:Int} (hb:¬ b < 0):binA Tryz.prog T .shr t (.int k a) (.int kd b)=some (.int k (a.fdiv (2 ^ (min b.toNat k.bits)))):=by
 have h1:((T.desc t).bind fun d=>zl3 d (.int k a) (.int kd b))=none:=by
  cases T.desc t with
  |none=>rfl
  |some d=>cases d <;> rfl
 have h2:zaJ Tryz.prog (binOp .shr t (.int k a) (.int kd b))=some (.int k (a.fdiv (2 ^ (min b.toNat k.bits)))):=by
  simp [binOp,Op.shift,hb,zdT]
 unfold binA
 have hf:zb8 .shr (.int k a) (.int kd b)=none:=rfl
 rw [hf]
 simp [h1,h2]
 exact ⟨⟨rfl,rfl⟩,rfl⟩
theorem zfU {d} {s t ty:TypeId} {x:Operand} {pos af g} {kk:IntKind} {a:Int} {v:Value} {e:Env} {h:Heap} {K:Value→Heap→Prop} (hs:zbU tab s=false) (ht:zbU tab t=false) (hx:zab e x=.int kk a) (hc:zaJ Tryz.prog (Next.value <$> convert s t (.int kk a))=some (Next.value v)) (hv:plain v=true):WOp Tryz.prog tab ov ⟨d,.convert s t x,ty,pos,af,g⟩ e h K=K v h:=by
 rw [znk d ty pos af g e h K s t x hs ht]
 have hp:zaR Tryz.prog e ⟨d,.convert s t x,ty,pos,af,g⟩ h=some (v,h):=by
  unfold zaR
  simp [Op.operands,hx,execOp]
  refine ⟨rfl,?_⟩
  rw [hc]
  simp [hv]
 rw [hp]
 rfl
theorem zuY (a:TermD):cut a.cells 0 2=some a.cells:=rfl
theorem zuP (a:TermD):Value.agg a.cells.toArray=a.val:=rfl
noncomputable def N109:=zax Tryz.f109
noncomputable def x109:=PLift.up (by have c:=zag N109 Tryz.f109;simp only [nEqs,Tryz.f109,seval] at c;exact nd c <| @zDk)
theorem c109:type_of% x109.down:=x109.down
noncomputable def N161:=zax Tryz.f161
noncomputable def x161:=PLift.up (by have c:=zag N161 Tryz.f161;simp only [nEqs,Tryz.f161,seval] at c;exact nd c <| @zDR)
theorem c161:type_of% x161.down:=x161.down
noncomputable def N135:=zax Tryz.f135
noncomputable def x135:=PLift.up (by have c:=zag N135 Tryz.f135;simp only [nEqs,Tryz.f135,seval] at c;exact nd c <| @zDF)
theorem c135:type_of% x135.down:=x135.down
noncomputable def N110:=zax Tryz.f110
noncomputable def x110:=PLift.up (by have c:=zag N110 Tryz.f110;simp only [nEqs,Tryz.f110,seval] at c;exact nd c <| @zDl)
theorem c110:type_of% x110.down:=x110.down
noncomputable def N108:=zax Tryz.f108
noncomputable def x108:=PLift.up (by have c:=zag N108 Tryz.f108;simp only [nEqs,Tryz.f108,seval] at c;exact nd c <| nd @ln9 <| @zDj)
theorem c108:type_of% x108.down:=x108.down
noncomputable def N136:=zax Tryz.f136
noncomputable def x136:=PLift.up (by have c:=zag N136 Tryz.f136;simp only [nEqs,Tryz.f136,seval] at c;exact nd c <| @zDG)
theorem c136:type_of% x136.down:=x136.down
noncomputable def N111:=zax Tryz.f111
noncomputable def x111:=PLift.up (by have c:=zag N111 Tryz.f111;simp only [nEqs,Tryz.f111,seval] at c;exact nd c <| @zDm)
theorem c111:type_of% x111.down:=x111.down
noncomputable def N79:=zax Tryz.f79
noncomputable def x79:=PLift.up (by have c:=zag N79 Tryz.f79;simp only [nEqs,Tryz.f79,seval] at c;exact nd c <| @fi79)
theorem c79:type_of% x79.down:=x79.down
noncomputable def N80:=zax Tryz.f80
noncomputable def x80:=PLift.up (by have c:=zag N80 Tryz.f80;simp only [nEqs,Tryz.f80,seval] at c;exact nd c <| @fi80)
theorem c80:type_of% x80.down:=x80.down
noncomputable def N151:=zax Tryz.f151
noncomputable def x151:=PLift.up (by have c:=zag N151 Tryz.f151;simp only [nEqs,Tryz.f151,seval] at c;exact nd c <| @zDO)
theorem c151:type_of% x151.down:=x151.down
noncomputable def N163:=zax Tryz.f163
noncomputable def x163:=PLift.up (by have c:=zag N163 Tryz.f163;simp only [nEqs,Tryz.f163,seval] at c;exact nd c <| @zDT)
theorem c163:type_of% x163.down:=x163.down
noncomputable def N150:=zax Tryz.f150
noncomputable def x150:=PLift.up (by have c:=zag N150 Tryz.f150;simp only [nEqs,Tryz.f150,seval] at c;exact nd c <| @zDN)
theorem c150:type_of% x150.down:=x150.down
noncomputable def N162:=zax Tryz.f162
noncomputable def x162:=PLift.up (by have c:=zag N162 Tryz.f162;simp only [nEqs,Tryz.f162,seval] at c;exact nd c <| @zDS)
theorem c162:type_of% x162.down:=x162.down
noncomputable def N112:=zax Tryz.f112
noncomputable def x112:=PLift.up (by have c:=zag N112 Tryz.f112;simp only [nEqs,Tryz.f112,seval] at c;exact nd c <| @zDn)
theorem c112:type_of% x112.down:=x112.down
noncomputable def N137:=zax Tryz.f137
noncomputable def x137:=PLift.up (by have c:=zag N137 Tryz.f137;simp only [nEqs,Tryz.f137,seval] at c;exact nd c <| nd @ix23 <| nd @ld9 <| nd @ln23 <| @zDH)
theorem c137:type_of% x137.down:=x137.down
noncomputable def N140:=zax Tryz.f140
noncomputable def x140:=PLift.up (by have c:=zag N140 Tryz.f140;simp only [nEqs,Tryz.f140,seval] at c;exact nd c <| nd @zpg <| nd @zsf <| nd @ld4 <| nd @ld9 <| @zDK)
theorem c140:type_of% x140.down:=x140.down
noncomputable def N120:=zax Tryz.f120
noncomputable def x120:=PLift.up (by have c:=zag N120 Tryz.f120;simp only [nEqs,Tryz.f120,seval] at c;exact nd c <| nd @al39 <| nd @zif <| nd @zsg <| nd @zsh <| nd @zsi <| nd @zvj <| nd @ld3 <| nd @ld39 <| nd @ld42 <| nd @ld9 <| nd @zvm <| @zDv)
theorem c120:type_of% x120.down:=x120.down
noncomputable def N139:=zax Tryz.f139
noncomputable def x139:=PLift.up (by have c:=zag N139 Tryz.f139;simp only [nEqs,Tryz.f139,seval] at c;exact nd c <| nd @ld39 <| @zDJ)
theorem c139:type_of% x139.down:=x139.down
noncomputable def N115:=zax Tryz.f115
noncomputable def x115:=PLift.up (by have c:=zag N115 Tryz.f115;simp only [nEqs,Tryz.f115,seval] at c;exact nd c <| nd @ld42 <| @zDq)
theorem c115:type_of% x115.down:=x115.down
noncomputable def N98:=zax Tryz.f98
noncomputable def x98:=PLift.up (by have c:=zag N98 Tryz.f98;simp only [nEqs,Tryz.f98,seval] at c;exact nd c <| nd @al39 <| nd @bs23 <| nd @zpg <| nd @zsf <| nd @zvj <| nd @ld39 <| nd @ld4 <| nd @ld42 <| nd @ld9 <| nd @zvm <| @fi98)
theorem c98:type_of% x98.down:=x98.down
end Go.Proofs.YtdplfgoifjjniaaGreatDoor
