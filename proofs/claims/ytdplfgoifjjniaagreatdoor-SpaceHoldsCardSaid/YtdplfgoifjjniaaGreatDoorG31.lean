/- The code of some functions, node by node, for simp. Written by a program (mkcode.py). No condition. -/
import Derived.Test.YtdplfgoifjjniaaGreatDoorG25
import Derived.Test.YtdplfgoifjjniaaGreatDoorG24
set_option linter.unusedSimpArgs false
set_option linter.unusedVariables false
set_option maxRecDepth 100000
set_option maxHeartbeats 0
namespace Go.Proofs.YtdplfgoifjjniaaGreatDoor
open Go.Am
noncomputable def N91:=bq Tryz.f91
noncomputable def x91:=PLift.up (by have c:=bu N91 Tryz.f91;simp only [aE,Tryz.f91,seval] at c;exact nd c <| nd @b9 <| @U3)
theorem Np:type_of% x91.down:=x91.down
noncomputable def Hm:=bq Tryz.f121
noncomputable def K1:=PLift.up (by have c:=bu Hm Tryz.f121;simp only [aE,Tryz.f121,seval] at c;exact nd c <| @zHd)
theorem Cg:type_of% K1.down:=K1.down
noncomputable def HA:=bq Tryz.f141
noncomputable def Ll:=PLift.up (by have c:=bu HA Tryz.f141;simp only [aE,Tryz.f141,seval] at c;exact nd c <| nd @PE <| nd @oX <| nd @PF <| @zHv)
theorem rz:type_of% Ll.down:=Ll.down
noncomputable def Ho:=bq Tryz.f123
noncomputable def K4:=PLift.up (by have c:=bu Ho Tryz.f123;simp only [aE,Tryz.f123,seval] at c;exact nd c <| nd @EJ <| nd @D0 <| @zHf)
theorem Ik:type_of% K4.down:=K4.down
noncomputable def Hn:=bq Tryz.f122
noncomputable def K3:=PLift.up (by have c:=bu Hn Tryz.f122;simp only [aE,Tryz.f122,seval] at c;exact nd c <| nd @BA <| nd @wq <| nd @kV <| @zHe)
theorem wL:type_of% K3.down:=K3.down
noncomputable def N42:=bq Tryz.f42
noncomputable def x42:=PLift.up (by have c:=bu N42 Tryz.f42;simp only [aE,Tryz.f42,seval] at c;exact nd c <| nd @b9 <| @Ug)
theorem Ng:type_of% x42.down:=x42.down
noncomputable def N69:=bq Tryz.f69
noncomputable def x69:=PLift.up (by have c:=bu N69 Tryz.f69;simp only [aE,Tryz.f69,seval] at c;exact nd c <| nd @jf <| nd @b9 <| nd @ia <| @UG)
theorem Cq:type_of% x69.down:=x69.down
theorem znp (l:List aQ) (v fv:Value) (pr:aQ→Bool) (h:Heap) (hl:Sl aK.term h v l) (hs:l.length≤1000) (Dt:∀ (x:aQ) (hc:Heap) (K:Value→Heap→Prop),Ext h hc→(∀ h',Ext hc h'→K (.bool (pr x)) h')→so Tryz.prog ae ov [x.val] hc K fv) (K:Value→Heap→Prop)
 (hk:∀ h',Ext h h'→K (.int .i64 (kK pr l)) h'):Ok Tryz.prog ae ov 141 [v,fv] h K:=by
 rw [ao h]
 have z:=Ext.refl h
 refine Ok.aD rfl zvq (br HA) rfl (m:=17) rfl ?_
 simp -implicitDefEqProofs only [syms,aa,seval,rz]
 repeat' ((with_reducible_and_instances refine Mz hl vB ?_) <;> simp -implicitDefEqProofs only [syms,aa,seval,rz])
 obtain ⟨I1,aR⟩:∃ I:Nat→Env→Heap→Prop,I=(fun n e h'=>∃ (i:Nat) (h1:Heap),h'=h1.lay [] h1.low∧Ext h h1∧(n=l.length - i∧i≤l.length∧∀ x∈l.take i,pr x=false)∧∃ J:Nat→Value,e=(v::fv::jr J 2 5 (.int .i64 l.length::.int .i64 i::jr J 9 10 ([])))):=⟨_,rfl⟩
 refine dg I1 _ (by rw [aR];exact ⟨0,_,rfl,z,⟨rfl,by omega,by simp⟩,aB (by kernel_rfl)⟩) ?_
 intro n e h' aH
 rw [aR] at aH
 obtain ⟨i,bE,rfl,z,hinv,J,rfl⟩:=aH
 obtain ⟨rfl,hi,az⟩:=hinv
 have hw:=eg i (by omega)
 repeat' (first|simp -implicitDefEqProofs only [syms,aa,seval,rz]|((with_reducible apply bp) <;> intro _))
 rotate_left
 ·rw [List.take_of_length_le (by omega)] at az
  have:=Pa az
  rw [this] at hk
  exact hk _ (z.aw _ _ (by omega))
 obtain ⟨r,hr,bo⟩:=eP (l:=l) (i:=i) (by assumption)
 repeat' ((first|with_reducible_and_instances refine MM (hl.mono z.inc) vB iJ (by omega) hr (fun p hp=>?_)|with_reducible_and_instances refine FW hp oh iJ ?_) <;> simp -implicitDefEqProofs only [syms,aa,seval,rz])
 refine Dt _ _ _ (z.aw _ _ (by omega)) (fun h' x=>?_)
 (replace z:=z.an x (by omega);rw [ao h'])
 cases hx:pr r
 rotate_left
 ·simp -implicitDefEqProofs only [syms,aa,seval,rz]
  have:=OX bo az hx
  rw [this] at hk
  exact hk _ (z.aw _ _ (by omega))
 ·simp -implicitDefEqProofs only [syms,aa,seval,rz]
  rw [hw]
  (rw [aR];with_reducible refine cz (m:=_) ?_ ⟨i+1,_,rfl,z,⟨rfl,by omega,pf (i:=i) (P:=fun x:aQ=>pr x=false) bo az hx⟩,aB (by kernel_rfl)⟩;omega)
theorem zfl (l:List aQ) (v fv:Value) (pr:aQ→Bool) (h:Heap) (hl:Sl aK.term h v l) (hs:l.length≤1000) (Dt:∀ (x:aQ) (hc:Heap) (K:Value→Heap→Prop),Ext h hc→(∀ h',Ext hc h'→K (.bool (pr x)) h')→so Tryz.prog ae ov [x.val] hc K fv) (K:Value→Heap→Prop)
 (hk:∀ h',Ext h h'→K (.bool (l.any pr)) h'):Ok Tryz.prog ae ov 121 [v,fv] h K:=by
 refine Ok.aD rfl zvc (br Hm) rfl (m:=7) rfl ?_
 simp -implicitDefEqProofs only [syms,aa,seval,Cg]
 refine znp l v fv pr h hl hs Dt _ (fun h' x=>?_)
 simp -implicitDefEqProofs only [syms,aa,seval,Cg,Po]
 refine PK (fun hh=>?_) (fun hh=>?_)
 all_goals
  simp -implicitDefEqProofs only [syms,aa,seval,Cg]
  rw [hh] at hk
  exact hk _ x
theorem zrN (x:aQ) (h:Heap) (K:Value→Heap→Prop) (hk:∀ h',Ext h h'→K (.bool x.v) h'):Ok Tryz.prog ae ov 123 [x.val] h K:=by
 rw [ao h]
 unfold aQ.val aQ.cells
 refine Ok.aD rfl zve (br Ho) rfl (m:=4) rfl ?_
 simp -implicitDefEqProofs only [syms,aa,seval,Ik]
 refine PK (fun hh=>?_) (fun hh=>?_)
 all_goals
  simp -implicitDefEqProofs only [syms,aa,seval,Ik]
  rw [hh] at hk
  exact hk _ ((Ext.refl h).aw _ _ (by omega))
theorem XC (A o:Nat) (k:Int) (h0:0≤k) (h4:k≤4):kf ae 40 (.pointer (some ⟨A,o,none⟩)) none (some (.int .i64 k)) none=some (.slice (some ⟨A,o,none⟩) k.toNat 4):=by
 have hG:4 < G:=by decide
 simp only [kf,Cv,pF,vA,if_pos hG,Option.bind_some]
 rw [if_pos ⟨h0,by omega⟩]
 simp [iJ]
theorem MB (a:ab) (h:Heap) (K:Value→Heap→Prop) (hk:∀ w h',Ext h h'→Sl aK.term h' w a.args→K w h'):Ok Tryz.prog ae ov 122 [a.val] h K:=by
 rw [ao h]
 have z:=Ext.refl h
 unfold ab.val ab.cells
 refine Ok.aD rfl zvd (br Hn) rfl (m:=8) rfl ?_
 simp -implicitDefEqProofs only [syms,aa,seval,wL]
 refine ztS rfl rfl ?_
 simp -implicitDefEqProofs only [syms,aa,seval,wL]
 refine ztW rfl rfl ?_
 simp -implicitDefEqProofs only [syms,aa,seval,wL]
 rw [XC _ _ _ (by split <;> split <;> omega) (by split <;> split <;> omega)]
 simp -implicitDefEqProofs only [syms,aa,seval,wL]
 have hc:(if 4 < (if a.n < 0 then 0 else a.n) then 4 else (if a.n < 0 then 0 else a.n)).toNat=a.cx:=by
  unfold ab.cx
  split <;> split <;> omega
 rw [hc]
 exact hk _ _ (z.aw _ _ (by omega)) (zC4 (a:=a) ⟨by rw [bB];simp,by rw [kX];rfl⟩ rfl)
theorem zt5 (a:ab) (h:Heap) (K:Value→Heap→Prop) (hk:∀ h',Ext h h'→K (.bool a.ground) h'):Ok Tryz.prog ae ov 91 [a.val] h K:=by
 rw [ao h]
 have z:=Ext.refl h
 unfold ab.val ab.cells
 refine Ok.aD rfl zAI (br N91) rfl (m:=6) rfl ?_
 simp -implicitDefEqProofs only [syms,aa,seval,Np]
 refine MB a _ _ (fun w h' x ha=>?_)
 (replace z:=z.an x (by omega);rw [ao h'])
 simp -implicitDefEqProofs only [syms,aa,seval,Np]
 have Ay:a.args.length≤1000:=by rw [sS];unfold ab.cx;omega
 refine zfl _ _ _ (fun t=>t.v) _ (ha.lay _ _) Ay (fun t hc K' _ hK=>by rw [pA];exact zrN t hc K' hK) _ (fun h' x=>?_)
 (replace z:=z.an x (by omega);(replace ha:=ha.over x);rw [ao h'])
 simp -implicitDefEqProofs only [syms,aa,seval,Np]
 refine cm rfl ?_
 simp -implicitDefEqProofs only [syms,aa,seval,Np]
 exact hk _ (z.aw _ _ (by omega))
theorem znn (l:List ab) (v:Value) (a:ab) (h:Heap) (hl:Sl aK.atom h v l) (hs:l.length≤1000) (K:Value→Heap→Prop)
 (hk:∀ h',Ext h h'→K (.int .i64 (kK (fun x=>decide (a=x)) l)) h'):Ok Tryz.prog ae ov 69 [v,a.val] h K:=by
 rw [ao h]
 have z:=Ext.refl h
 refine Ok.aD rfl zAm (br N69) rfl (m:=17) rfl ?_
 simp -implicitDefEqProofs only [syms,aa,seval,Cq,eW]
 repeat' ((with_reducible_and_instances refine Mz hl cf ?_) <;> simp -implicitDefEqProofs only [syms,aa,seval,Cq])
 refine lG (fun h' x hq=>?_)
 have q0:=hq 0 _ rfl
 clear hq
 (replace z:=z.an x (by omega);rw [ao h'])
 obtain ⟨I1,aR⟩:∃ I:Nat→Env→Heap→Prop,I=(fun n e h'=>∃ (i:Nat) (h1:Heap),h'=h1.lay [] h1.low∧Ext h h1∧(n=l.length - i∧i≤l.length∧(∀ x∈l.take i,decide (a=x)=false)∧Holds h1 (h.size+0) (.row a.cells 42 false))∧∃ J:Nat→Value,e=(v::jr J 1 2 (.pointer (some ⟨h.size+0,0,none⟩)::jr J 4 3 (.int .i64 l.length::.int .i64 i::jr J 9 10 ([]))))):=⟨_,rfl⟩
 refine dg I1 _ (by rw [aR];exact ⟨0,_,rfl,z,⟨rfl,by omega,by simp,q0⟩,aB (by kernel_rfl)⟩) ?_
 intro n e h' aH
 rw [aR] at aH
 obtain ⟨i,bE,rfl,z,hinv,J,rfl⟩:=aH
 obtain ⟨rfl,hi,az,q0⟩:=hinv
 have hw:=eg i (by omega)
 simp -implicitDefEqProofs only [syms,aa,seval,Cq]
 refine bp (fun aS=>?_) (fun aS=>?_)
 rotate_left
 ·simp -implicitDefEqProofs only [syms,aa,seval,Cq]
  rw [List.take_of_length_le (by omega)] at az
  have:=Pa az
  rw [this] at hk
  exact hk _ (z.aw _ _ (by omega))
 obtain ⟨r,hr,bo⟩:=eP (l:=l) (i:=i) aS
 simp -implicitDefEqProofs only [syms,aa,seval,Cq]
 repeat' ((first|((with_reducible apply bp) <;> intro _)|with_reducible_and_instances refine pg (hl.mono z.inc) cf bS (by omega) hr (fun p hp=>?_)|with_reducible_and_instances refine mM hp fw bS ?_|with_reducible refine eu (by simp only [Cq]) (z.aw _ _ (by omega)) ?_|((with_reducible refine ⟨z.cW.lay _ _,?_⟩);(intro _ h' zz x _);(simp only [cq,List.append_nil] at x);(replace q0:=q0.over x);(replace z:=zz);(clear zz);rw [ao h'])) <;> simp -implicitDefEqProofs only [syms,aa,seval,Cq,q0.lay,↓ff,eR,zsU,dQ])
 ·have:=OX (p:=fun x=>decide (a=x)) bo az (by simpa using (by assumption:a=r))
  rw [this] at hk
  exact hk _ (z.aw _ _ (by omega))
 ·rw [hw]
  (rw [aR];with_reducible refine cz (m:=_) ?_ ⟨i+1,_,rfl,z,⟨rfl,by omega,pf (i:=i) (P:=fun x:ab=>decide (a=x)=false) bo az (by simpa using (by assumption:¬ a=r)),q0⟩,aB (by kernel_rfl)⟩;omega)
theorem ziV (l:List ab) (v:Value) (a:ab) (h:Heap) (hl:Sl aK.atom h v l) (hs:l.length≤1000) (K:Value→Heap→Prop)
 (hk:∀ h',Ext h h'→K (.bool (decide (a∈l))) h'):Ok Tryz.prog ae ov 42 [v,a.val] h K:=by
 rw [ao h]
 have z:=Ext.refl h
 refine Ok.aD rfl zzV (br N42) rfl (m:=7) rfl ?_
 simp -implicitDefEqProofs only [syms,aa,seval,Ng,eW,↓ff,eR,dQ]
 refine znn l _ a _ (hl.lay _ _) hs _ (fun h' x=>?_)
 (replace z:=z.an x (by omega);rw [ao h'])
 simp -implicitDefEqProofs only [syms,aa,seval,Ng,zD6]
 refine bp (fun hh=>?_) (fun hh=>?_)
 ·simp -implicitDefEqProofs only [syms,aa,seval,Ng]
  rw [decide_eq_true hh] at hk
  exact hk _ (z.aw _ _ (by omega))
 ·simp -implicitDefEqProofs only [syms,aa,seval,Ng]
  rw [decide_eq_false hh] at hk
  exact hk _ (z.aw _ _ (by omega))
end Go.Proofs.YtdplfgoifjjniaaGreatDoor

namespace Go.Proofs.YtdplfgoifjjniaaGreatDoor
open Go.Am
theorem Mx (a:Int):gF Tryz.prog (Next.value <$> convert 3 154 (.int .i64 a))=some (Next.value (.int .u64 (IntKind.u64.wrap a))):=by rfl
theorem MI (a:Int):gF Tryz.prog (Next.value <$> convert 154 3 (.int .u64 a))=some (Next.value (.int .i64 (IntKind.i64.wrap a))):=by rfl
theorem MD {T:bD} {t:TypeId} {k kd:IntKind} {a b:Int} (hb:¬ b < 0):bU Tryz.prog T .shr t (.int k a) (.int kd b)=some (.int k (a.fdiv (2 ^ (min b.toNat k.bits)))):=by
 have h1:((T.desc t).bind fun d=>BM d (.int k a) (.int kd b))=none:=by
  cases T.desc t with
  |none=>rfl
  |some d=>cases d <;> rfl
 have h2:gF Tryz.prog (binOp .shr t (.int k a) (.int kd b))=some (.int k (a.fdiv (2 ^ (min b.toNat k.bits)))):=by
  simp [binOp,Op.shift,hb,wj]
 unfold bU
 have hf:pE .shr (.int k a) (.int kd b)=none:=rfl
 rw [hf]
 simp [h1,h2]
 exact ⟨⟨rfl,rfl⟩,rfl⟩
theorem wm {d} {s t ty:TypeId} {x:Operand} {pos af g} {kk:IntKind} {a:Int} {v:Value} {e:Env} {h:Heap} {K:Value→Heap→Prop} (hs:n6 ae s=false) (ht:n6 ae t=false) (hx:aZ e x=.int kk a) (hc:gF Tryz.prog (Next.value <$> convert s t (.int kk a))=some (Next.value v)) (hv:plain v=true):bY Tryz.prog ae ov ⟨d,.convert s t x,ty,pos,af,g⟩ e h K=K v h:=by
 rw [zn8 d ty pos af g e h K s t x hs ht]
 have hp:gi Tryz.prog e ⟨d,.convert s t x,ty,pos,af,g⟩ h=some (v,h):=by
  unfold gi
  simp [Op.operands,hx,execOp]
  refine ⟨rfl,?_⟩
  rw [hc]
  simp [hv]
 rw [hp]
 rfl
theorem zwq (a:aQ):cut a.cells 0 2=some a.cells:=rfl
theorem zwf (a:aQ):Value.agg a.cells.toArray=a.val:=rfl
noncomputable def G9:=bq Tryz.f109
noncomputable def KO:=PLift.up (by have c:=bu G9 Tryz.f109;simp only [aE,Tryz.f109,seval] at c;exact nd c <| @zG1)
theorem Ig:type_of% KO.down:=KO.down
noncomputable def HH:=bq Tryz.f161
noncomputable def Lx:=PLift.up (by have c:=bu HH Tryz.f161;simp only [aE,Tryz.f161,seval] at c;exact nd c <| @zHF)
theorem Iq:type_of% Lx.down:=Lx.down
noncomputable def Hv:=bq Tryz.f135
noncomputable def Le:=PLift.up (by have c:=bu Hv Tryz.f135;simp only [aE,Tryz.f135,seval] at c;exact nd c <| @zHp)
theorem Il:type_of% Le.down:=Le.down
noncomputable def Ha:=bq Tryz.f110
noncomputable def KQ:=PLift.up (by have c:=bu Ha Tryz.f110;simp only [aE,Tryz.f110,seval] at c;exact nd c <| @zG2)
theorem pR:type_of% KQ.down:=KQ.down
noncomputable def G8:=bq Tryz.f108
noncomputable def KN:=PLift.up (by have c:=bu G8 Tryz.f108;simp only [aE,Tryz.f108,seval] at c;exact nd c <| nd @xQ <| @zG0)
theorem ju:type_of% KN.down:=KN.down
noncomputable def Hw:=bq Tryz.f136
noncomputable def Lf:=PLift.up (by have c:=bu Hw Tryz.f136;simp only [aE,Tryz.f136,seval] at c;exact nd c <| @zHq)
theorem Im:type_of% Lf.down:=Lf.down
noncomputable def Hc:=bq Tryz.f111
noncomputable def KR:=PLift.up (by have c:=bu Hc Tryz.f111;simp only [aE,Tryz.f111,seval] at c;exact nd c <| @zG3)
theorem wK:type_of% KR.down:=KR.down
noncomputable def N79:=bq Tryz.f79
noncomputable def x79:=PLift.up (by have c:=bu N79 Tryz.f79;simp only [aE,Tryz.f79,seval] at c;exact nd c <| @UQ)
theorem Iu:type_of% x79.down:=x79.down
noncomputable def N80:=bq Tryz.f80
noncomputable def x80:=PLift.up (by have c:=bu N80 Tryz.f80;simp only [aE,Tryz.f80,seval] at c;exact nd c <| @UR)
theorem Tm:type_of% x80.down:=x80.down
noncomputable def HF:=bq Tryz.f151
noncomputable def Ls:=PLift.up (by have c:=bu HF Tryz.f151;simp only [aE,Tryz.f151,seval] at c;exact nd c <| @zHB)
theorem tA:type_of% Ls.down:=Ls.down
noncomputable def HJ:=bq Tryz.f163
noncomputable def Lz:=PLift.up (by have c:=bu HJ Tryz.f163;simp only [aE,Tryz.f163,seval] at c;exact nd c <| @zHH)
theorem tC:type_of% Lz.down:=Lz.down
noncomputable def HE:=bq Tryz.f150
noncomputable def Lr:=PLift.up (by have c:=bu HE Tryz.f150;simp only [aE,Tryz.f150,seval] at c;exact nd c <| @zHA)
theorem Ck:type_of% Lr.down:=Lr.down
noncomputable def HI:=bq Tryz.f162
noncomputable def Ly:=PLift.up (by have c:=bu HI Tryz.f162;simp only [aE,Tryz.f162,seval] at c;exact nd c <| @zHG)
theorem tB:type_of% Ly.down:=Ly.down
noncomputable def Hd:=bq Tryz.f112
noncomputable def KS:=PLift.up (by have c:=bu Hd Tryz.f112;simp only [aE,Tryz.f112,seval] at c;exact nd c <| @zG4)
theorem Cd:type_of% KS.down:=KS.down
noncomputable def Hx:=bq Tryz.f137
noncomputable def Lg:=PLift.up (by have c:=bu Hx Tryz.f137;simp only [aE,Tryz.f137,seval] at c;exact nd c <| nd @je <| nd @gf <| nd @jg <| @zHr)
theorem wO:type_of% Lg.down:=Lg.down
noncomputable def BW:=bq Tryz.f140
noncomputable def Lk:=PLift.up (by have c:=bu BW Tryz.f140;simp only [aE,Tryz.f140,seval] at c;exact nd c <| nd @EJ <| nd @EK <| nd @D0 <| nd @gf <| @zHu)
theorem wP:type_of% Lk.down:=Lk.down
noncomputable def Hl:=bq Tryz.f120
noncomputable def K0:=PLift.up (by have c:=bu Hl Tryz.f120;simp only [aE,Tryz.f120,seval] at c;exact nd c <| nd @B8 <| nd @ri <| nd @EL <| nd @BA <| nd @wq <| nd @PE <| nd @kV <| nd @oX <| nd @b9 <| nd @gf <| nd @PF <| @zHc)
theorem k6:type_of% K0.down:=K0.down
noncomputable def Hz:=bq Tryz.f139
noncomputable def Li:=PLift.up (by have c:=bu Hz Tryz.f139;simp only [aE,Tryz.f139,seval] at c;exact nd c <| nd @oX <| @zHt)
theorem Ci:type_of% Li.down:=Li.down
noncomputable def Hg:=bq Tryz.f115
noncomputable def KV:=PLift.up (by have c:=bu Hg Tryz.f115;simp only [aE,Tryz.f115,seval] at c;exact nd c <| nd @b9 <| @zG7)
theorem Ii:type_of% KV.down:=KV.down
noncomputable def RM:=bq Tryz.f98
noncomputable def x98:=PLift.up (by have c:=bu RM Tryz.f98;simp only [aE,Tryz.f98,seval] at c;exact nd c <| nd @B8 <| nd @pQ <| nd @EJ <| nd @EK <| nd @PE <| nd @oX <| nd @D0 <| nd @b9 <| nd @gf <| nd @PF <| @U8)
theorem mx:type_of% x98.down:=x98.down
end Go.Proofs.YtdplfgoifjjniaaGreatDoor
