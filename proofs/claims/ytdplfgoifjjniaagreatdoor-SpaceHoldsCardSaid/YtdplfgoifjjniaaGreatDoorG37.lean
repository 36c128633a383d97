/- The code of some functions, node by node, for simp. Written by a program (mkcode.py). No condition. -/
import Derived.Test.YtdplfgoifjjniaaGreatDoorG30
import Derived.Test.YtdplfgoifjjniaaGreatDoorZQ1
set_option linter.unusedSimpArgs false
set_option linter.unusedVariables false
set_option maxRecDepth 100000
set_option maxHeartbeats 0
namespace Go.Proofs.YtdplfgoifjjniaaGreatDoor
open Go.Am
noncomputable def N34:=bq Tryz.f34
noncomputable def x34:=PLift.up (by have c:=bu N34 Tryz.f34;simp only [aE,Tryz.f34,seval] at c;exact nd c <| nd @ztr <| nd @je <| nd @b9 <| nd @D5 <| nd @gf <| nd @jg <| nd @T9 <| @Va)
theorem Fm:type_of% x34.down:=x34.down
noncomputable def N38:=bq Tryz.f38
noncomputable def x38:=PLift.up (by have c:=bu N38 Tryz.f38;simp only [aE,Tryz.f38,seval] at c;exact nd c <| nd @ztr <| nd @je <| nd @b9 <| nd @D5 <| nd @gf <| nd @jg <| nd @Uc <| @Vb)
theorem Cp:type_of% x38.down:=x38.down
noncomputable def N31:=bq Tryz.f31
noncomputable def x31:=PLift.up (by have c:=bu N31 Tryz.f31;simp only [aE,Tryz.f31,seval] at c;exact nd c <| nd @B7 <| nd @Bz <| nd @GJ <| nd @GK <| nd @kL <| nd @rZ <| nd @kV <| nd @T6 <| @eO)
theorem Co:type_of% x31.down:=x31.down
noncomputable def N30:=bq Tryz.f30
noncomputable def x30:=PLift.up (by have c:=bu N30 Tryz.f30;simp only [aE,Tryz.f30,seval] at c;exact nd c <| nd @eO <| @T5)
theorem Cn:type_of% x30.down:=x30.down
noncomputable def N10:=bq Tryz.f10
noncomputable def KE:=PLift.up (by have c:=bu N10 Tryz.f10;simp only [aE,Tryz.f10,seval] at c;exact nd c <| nd @eO <| @TK)
theorem Fi:type_of% KE.down:=KE.down
noncomputable def N32:=bq Tryz.f32
noncomputable def x32:=PLift.up (by have c:=bu N32 Tryz.f32;simp only [aE,Tryz.f32,seval] at c;exact nd c <| nd @S9 <| nd @zBd <| nd @MS <| nd @zDZ <| nd @zD0 <| nd @eO <| nd @b9 <| nd @oY <| nd @Xh <| nd @uU <| nd @ia <| @T7)
theorem nc:type_of% x32.down:=x32.down
noncomputable def N11:=bq Tryz.f11
noncomputable def KP:=PLift.up (by have c:=bu N11 Tryz.f11;simp only [aE,Tryz.f11,seval] at c;exact nd c <| nd @GK <| nd @zts <| nd @zBd <| nd @kV <| nd @b9 <| nd @Kl <| @TL)
theorem wJ:type_of% KP.down:=KP.down
noncomputable def N16:=bq Tryz.f16
noncomputable def Lw:=PLift.up (by have c:=bu N16 Tryz.f16;simp only [aE,Tryz.f16,seval] at c;exact nd c <| nd @zts <| nd @b9 <| nd @Kl <| @TQ)
theorem Ad:type_of% Lw.down:=Lw.down
noncomputable def N20:=bq Tryz.f20
noncomputable def LL:=PLift.up (by have c:=bu N20 Tryz.f20;simp only [aE,Tryz.f20,seval] at c;exact nd c <| nd @MS <| nd @ztt <| nd @uU <| nd @NY <| nd @xV <| nd @Qn <| nd @Qo <| nd @Qp <| nd @Qq <| nd @Qr <| nd @Qs <| nd @Qt <| nd @xW <| nd @Qu <| nd @Qv <| nd @Qw <| nd @Qx <| nd @Qy <| nd @Qz <| nd @QA <| nd @QB <| nd @QC <| nd @QD <| nd @xX <| nd @QE <| nd @QF <| nd @PW <| nd @PX <| nd @PY <| nd @PZ <| nd @P1 <| nd @P2 <| nd @P3 <| nd @xY <| nd @P4 <| nd @P5 <| nd @P6 <| nd @P7 <| nd @P8 <| nd @P9 <| nd @Qa <| nd @Qb <| nd @Qc <| nd @Qd <| nd @xZ <| nd @Qe <| nd @Qf <| nd @Qg <| nd @Qh <| nd @Qi <| nd @Qj <| nd @Qk <| nd @Ql <| nd @Qm <| nd @PL <| nd @ya <| nd @PM <| nd @PN <| nd @PO <| nd @PQ <| nd @PR <| nd @PS <| nd @PT <| nd @PU <| nd @PV <| nd @Rh <| nd @yb <| nd @Ri <| nd @Rj <| nd @Rk <| nd @Rl <| nd @Rm <| nd @Rn <| nd @Ro <| nd @Rp <| nd @Rq <| nd @Rr <| nd @yc <| nd @Rs <| nd @Rt <| nd @Ru <| nd @Rv <| nd @Rw <| nd @Rx <| nd @Ry <| nd @Rz <| nd @RA <| nd @RB <| nd @yd <| nd @RC <| nd @RD <| nd @RE <| nd @RF <| nd @RG <| nd @QP <| nd @QQ <| nd @QR <| nd @QS <| nd @ye <| nd @QT <| nd @QU <| nd @QV <| nd @QW <| nd @QX <| nd @QY <| nd @QZ <| nd @Q0 <| nd @Q1 <| nd @Q2 <| nd @NZ <| nd @yf <| nd @Q3 <| nd @Q4 <| nd @Q5 <| nd @Q6 <| nd @Q7 <| nd @Q8 <| nd @Q9 <| nd @Ra <| nd @Rb <| nd @Rc <| nd @yg <| nd @Re <| nd @Rf <| nd @QG <| nd @QH <| nd @QI <| nd @QJ <| nd @QK <| nd @QL <| nd @QM <| nd @QN <| nd @yh <| nd @QO <| nd @yi <| nd @yj <| nd @yk <| nd @yl <| nd @ym <| nd @yn <| nd @yo <| nd @N0 <| nd @yp <| nd @yq <| nd @yr <| nd @yu <| nd @yv <| nd @yw <| nd @yx <| nd @yy <| nd @N1 <| nd @yz <| nd @yA <| nd @yB <| nd @yC <| nd @yD <| nd @yE <| nd @yF <| nd @yG <| nd @yH <| nd @yI <| nd @N7 <| nd @yJ <| nd @yK <| nd @yL <| nd @yM <| nd @yN <| nd @yO <| nd @yP <| nd @yQ <| nd @yR <| nd @yS <| nd @Oa <| nd @yT <| nd @yU <| nd @yV <| nd @yW <| nd @yX <| nd @yY <| nd @yZ <| nd @y4 <| nd @y5 <| nd @y6 <| nd @Ob <| nd @y7 <| nd @y8 <| nd @y9 <| nd @za <| nd @zb <| nd @zc <| nd @zd <| nd @ze <| nd @zf <| nd @zg <| nd @Oc <| nd @zh <| nd @zi <| nd @zj <| nd @zk <| nd @zl <| nd @zm <| nd @zn <| nd @zo <| nd @zp <| nd @zq <| nd @Od <| nd @zr <| nd @zs <| nd @zt <| nd @zu <| nd @zw <| nd @zx <| nd @zy <| nd @zA <| nd @zB <| nd @zC <| @TU)
theorem Tj:type_of% LL.down:=LL.down
noncomputable def N23:=bq Tryz.f23
noncomputable def x23:=PLift.up (by have c:=bu N23 Tryz.f23;simp only [aE,Tryz.f23,seval] at c;exact nd c <| nd @ri <| nd @MS <| nd @ztt <| nd @b9 <| nd @uU <| nd @gf <| nd @NY <| nd @xV <| nd @Qn <| nd @Qo <| nd @Qp <| nd @Qq <| nd @Qr <| nd @Qs <| nd @Qt <| nd @xW <| nd @Qu <| nd @Qv <| nd @Qw <| nd @Qx <| nd @Qy <| nd @Qz <| nd @QA <| nd @QB <| nd @QC <| nd @QD <| nd @xX <| nd @QE <| nd @QF <| nd @PW <| nd @PX <| nd @PY <| nd @PZ <| nd @P1 <| nd @P2 <| nd @P3 <| nd @xY <| nd @P4 <| nd @P5 <| nd @P6 <| nd @P7 <| nd @P8 <| nd @P9 <| nd @Qa <| nd @Qb <| nd @Qc <| nd @Qd <| nd @xZ <| nd @Qe <| nd @Qf <| nd @Qg <| nd @Qh <| nd @Qi <| nd @Qj <| nd @Qk <| nd @Ql <| nd @Qm <| nd @PL <| nd @ya <| nd @PM <| nd @PN <| nd @PO <| nd @PQ <| nd @PR <| nd @PS <| nd @PT <| nd @PU <| nd @PV <| nd @Rh <| nd @yb <| nd @Ri <| nd @Rj <| nd @Rk <| nd @Rl <| nd @Rm <| nd @Rn <| nd @Ro <| nd @Rp <| nd @Rq <| nd @Rr <| nd @yc <| nd @Rs <| nd @Rt <| nd @Ru <| nd @Rv <| nd @Rw <| nd @Rx <| nd @Ry <| nd @Rz <| nd @RA <| nd @RB <| nd @yd <| nd @RC <| nd @RD <| nd @RE <| nd @RF <| nd @RG <| nd @QP <| nd @QQ <| nd @QR <| nd @QS <| nd @ye <| nd @QT <| nd @QU <| nd @QV <| nd @QW <| nd @QX <| nd @QY <| nd @QZ <| nd @Q0 <| nd @Q1 <| nd @Q2 <| nd @NZ <| nd @yf <| nd @Q3 <| nd @Q4 <| nd @Q5 <| nd @Q6 <| nd @Q7 <| nd @Q8 <| nd @Q9 <| nd @Ra <| nd @Rb <| nd @Rc <| nd @yg <| nd @Re <| nd @Rf <| nd @QG <| nd @QH <| nd @QI <| nd @QJ <| nd @QK <| nd @QL <| nd @QM <| nd @QN <| nd @yh <| nd @QO <| nd @yi <| nd @yj <| nd @yk <| nd @yl <| nd @ym <| nd @yn <| nd @yo <| nd @N0 <| nd @yp <| nd @yq <| nd @yr <| nd @yu <| nd @yv <| nd @yw <| nd @yx <| nd @yy <| nd @N1 <| nd @yz <| nd @yA <| nd @yB <| nd @yC <| nd @yD <| nd @yE <| nd @yF <| nd @yG <| nd @yH <| nd @yI <| nd @N7 <| nd @yJ <| nd @yK <| nd @yL <| nd @yM <| nd @yN <| nd @yO <| nd @yP <| nd @yQ <| nd @yR <| nd @yS <| nd @Oa <| nd @yT <| nd @yU <| nd @yV <| nd @yW <| nd @yX <| nd @yY <| nd @yZ <| nd @y4 <| nd @y5 <| nd @y6 <| nd @Ob <| nd @y7 <| nd @y8 <| nd @y9 <| nd @za <| nd @zb <| nd @zc <| nd @zd <| nd @ze <| nd @zf <| nd @zg <| nd @Oc <| nd @zh <| nd @zi <| nd @zj <| nd @zk <| nd @zl <| nd @zm <| nd @zn <| nd @zo <| nd @zp <| nd @zq <| nd @Od <| nd @zr <| nd @zs <| nd @zt <| nd @zu <| nd @zw <| nd @zx <| nd @zy <| nd @zA <| nd @zB <| nd @zC <| @TX)
theorem Fj:type_of% x23.down:=x23.down
noncomputable def N21:=bq Tryz.f21
noncomputable def LM:=PLift.up (by have c:=bu N21 Tryz.f21;simp only [aE,Tryz.f21,seval] at c;exact nd c <| nd @MS <| nd @zD1 <| nd @uU <| nd @NY <| nd @xV <| nd @Qn <| nd @Qo <| nd @Qp <| nd @Qq <| nd @Qr <| nd @Qs <| nd @Qt <| nd @xW <| nd @Qu <| nd @Qv <| nd @Qw <| nd @Qx <| nd @Qy <| nd @Qz <| nd @QA <| nd @QB <| nd @QC <| nd @QD <| nd @xX <| nd @QE <| nd @QF <| nd @PW <| nd @PX <| nd @PY <| nd @PZ <| nd @P1 <| nd @P2 <| nd @P3 <| nd @xY <| nd @P4 <| nd @P5 <| nd @P6 <| nd @P7 <| nd @P8 <| nd @P9 <| nd @Qa <| nd @Qb <| nd @Qc <| nd @Qd <| nd @xZ <| nd @Qe <| nd @Qf <| nd @Qg <| nd @Qh <| nd @Qi <| nd @Qj <| nd @Qk <| nd @Ql <| nd @Qm <| nd @PL <| nd @ya <| nd @PM <| nd @PN <| nd @PO <| nd @PQ <| nd @PR <| nd @PS <| nd @PT <| nd @PU <| nd @PV <| nd @Rh <| nd @yb <| nd @Ri <| nd @Rj <| nd @Rk <| nd @Rl <| nd @Rm <| nd @Rn <| nd @Ro <| nd @Rp <| nd @Rq <| nd @Rr <| nd @yc <| nd @Rs <| nd @Rt <| nd @Ru <| nd @Rv <| nd @Rw <| nd @Rx <| nd @Ry <| nd @Rz <| nd @RA <| nd @RB <| nd @yd <| nd @RC <| nd @RD <| nd @RE <| nd @RF <| nd @RG <| nd @QP <| nd @QQ <| nd @QR <| nd @QS <| nd @ye <| nd @QT <| nd @QU <| nd @QV <| nd @QW <| nd @QX <| nd @QY <| nd @QZ <| nd @Q0 <| nd @Q1 <| nd @Q2 <| nd @NZ <| nd @yf <| nd @Q3 <| nd @Q4 <| nd @Q5 <| nd @Q6 <| nd @Q7 <| nd @Q8 <| nd @Q9 <| nd @Ra <| nd @Rb <| nd @Rc <| nd @yg <| nd @Re <| nd @Rf <| nd @QG <| nd @QH <| nd @QI <| nd @QJ <| nd @QK <| nd @QL <| nd @QM <| nd @QN <| nd @yh <| nd @QO <| nd @yi <| nd @yj <| nd @yk <| nd @yl <| nd @ym <| nd @yn <| nd @yo <| nd @N0 <| nd @yp <| nd @yq <| nd @yr <| nd @yu <| nd @yv <| nd @yw <| nd @yx <| nd @yy <| nd @N1 <| nd @yz <| nd @yA <| nd @yB <| nd @yC <| nd @yD <| nd @yE <| nd @yF <| nd @yG <| nd @yH <| nd @yI <| nd @N7 <| nd @yJ <| nd @yK <| nd @yL <| nd @yM <| nd @yN <| nd @yO <| nd @yP <| nd @yQ <| nd @yR <| nd @yS <| nd @Oa <| nd @yT <| nd @yU <| nd @yV <| nd @yW <| nd @yX <| nd @yY <| nd @yZ <| nd @y4 <| nd @y5 <| nd @y6 <| nd @Ob <| nd @y7 <| nd @y8 <| nd @y9 <| nd @za <| nd @zb <| nd @zc <| nd @zd <| nd @ze <| nd @zf <| nd @zg <| nd @Oc <| nd @zh <| nd @zi <| nd @zj <| nd @zk <| nd @zl <| nd @zm <| nd @zn <| nd @zo <| nd @zp <| nd @zq <| nd @Od <| nd @zr <| nd @zs <| nd @zt <| nd @zu <| nd @zw <| nd @zx <| nd @zy <| nd @zA <| nd @zB <| nd @zC <| @TV)
theorem c21:type_of% LM.down:=LM.down
noncomputable def N14:=bq Tryz.f14
noncomputable def Lj:=PLift.up (by have c:=bu N14 Tryz.f14;simp only [aE,Tryz.f14,seval] at c;exact nd c <| nd @MS <| nd @ztt <| nd @uU <| nd @ia <| nd @NY <| nd @xV <| nd @Qn <| nd @Qo <| nd @Qp <| nd @Qq <| nd @Qr <| nd @Qs <| nd @Qt <| nd @xW <| nd @Qu <| nd @Qv <| nd @Qw <| nd @Qx <| nd @Qy <| nd @Qz <| nd @QA <| nd @QB <| nd @QC <| nd @QD <| nd @xX <| nd @QE <| nd @QF <| nd @PW <| nd @PX <| nd @PY <| nd @PZ <| nd @P1 <| nd @P2 <| nd @P3 <| nd @xY <| nd @P4 <| nd @P5 <| nd @P6 <| nd @P7 <| nd @P8 <| nd @P9 <| nd @Qa <| nd @Qb <| nd @Qc <| nd @Qd <| nd @xZ <| nd @Qe <| nd @Qf <| nd @Qg <| nd @Qh <| nd @Qi <| nd @Qj <| nd @Qk <| nd @Ql <| nd @Qm <| nd @PL <| nd @ya <| nd @PM <| nd @PN <| nd @PO <| nd @PQ <| nd @PR <| nd @PS <| nd @PT <| nd @PU <| nd @PV <| nd @Rh <| nd @yb <| nd @Ri <| nd @Rj <| nd @Rk <| nd @Rl <| nd @Rm <| nd @Rn <| nd @Ro <| nd @Rp <| nd @Rq <| nd @Rr <| nd @yc <| nd @Rs <| nd @Rt <| nd @Ru <| nd @Rv <| nd @Rw <| nd @Rx <| nd @Ry <| nd @Rz <| nd @RA <| nd @RB <| nd @yd <| nd @RC <| nd @RD <| nd @RE <| nd @RF <| nd @RG <| nd @QP <| nd @QQ <| nd @QR <| nd @QS <| nd @ye <| nd @QT <| nd @QU <| nd @QV <| nd @QW <| nd @QX <| nd @QY <| nd @QZ <| nd @Q0 <| nd @Q1 <| nd @Q2 <| nd @NZ <| nd @yf <| nd @Q3 <| nd @Q4 <| nd @Q5 <| nd @Q6 <| nd @Q7 <| nd @Q8 <| nd @Q9 <| nd @Ra <| nd @Rb <| nd @Rc <| nd @yg <| nd @Re <| nd @Rf <| nd @QG <| nd @QH <| nd @QI <| nd @QJ <| nd @QK <| nd @QL <| nd @QM <| nd @QN <| nd @yh <| nd @QO <| nd @yi <| nd @yj <| nd @yk <| nd @yl <| nd @ym <| nd @yn <| nd @yo <| nd @N0 <| nd @yp <| nd @yq <| nd @yr <| nd @yu <| nd @yv <| nd @yw <| nd @yx <| nd @yy <| nd @N1 <| nd @yz <| nd @yA <| nd @yB <| nd @yC <| nd @yD <| nd @yE <| nd @yF <| nd @yG <| nd @yH <| nd @yI <| nd @N7 <| nd @yJ <| nd @yK <| nd @yL <| nd @yM <| nd @yN <| nd @yO <| nd @yP <| nd @yQ <| nd @yR <| nd @yS <| nd @Oa <| nd @yT <| nd @yU <| nd @yV <| nd @yW <| nd @yX <| nd @yY <| nd @yZ <| nd @y4 <| nd @y5 <| nd @y6 <| nd @Ob <| nd @y7 <| nd @y8 <| nd @y9 <| nd @za <| nd @zb <| nd @zc <| nd @zd <| nd @ze <| nd @zf <| nd @zg <| nd @Oc <| nd @zh <| nd @zi <| nd @zj <| nd @zk <| nd @zl <| nd @zm <| nd @zn <| nd @zo <| nd @zp <| nd @zq <| nd @Od <| nd @zr <| nd @zs <| nd @zt <| nd @zu <| nd @zw <| nd @zx <| nd @zy <| nd @zA <| nd @zB <| nd @zC <| @TO)
theorem c14:type_of% Lj.down:=Lj.down
noncomputable def N15:=bq Tryz.f15
noncomputable def Lq:=PLift.up (by have c:=bu N15 Tryz.f15;simp only [aE,Tryz.f15,seval] at c;exact nd c <| nd @ztr <| nd @zts <| nd @D5 <| @TP)
theorem c15:type_of% Lq.down:=Lq.down
noncomputable def N59:=bq Tryz.f59
noncomputable def x59:=PLift.up (by have c:=bu N59 Tryz.f59;simp only [aE,Tryz.f59,seval] at c;exact nd c <| nd @Ib <| @Ux)
theorem Nk:type_of% x59.down:=x59.down
noncomputable def N58:=bq Tryz.f58
noncomputable def x58:=PLift.up (by have c:=bu N58 Tryz.f58;simp only [aE,Tryz.f58,seval] at c;exact nd c <| nd @pQ <| @Uw)
theorem Nj:type_of% x58.down:=x58.down
theorem Tb (M:Nat):nR ae 115 [(2,.map (some M))]=some (.agg #[.slice none 0 0,.slice none 0 0,.map (some M)]):=by kernel_rfl
theorem zCS (N:Nat) (h:Heap) (FI FE:Nat) (hI:N≤FI∧FI < h.size) (hE:N≤FE∧FE < h.size) (aO:FI≠FE) (K:Value→Heap→Prop) (hk:∀ h' T0 FM,Ext h h'→dY N h' T0 FI FE FM [] [] []→h.size≤T0→h.size≤FM→K (.pointer (some ⟨T0,0,none⟩)) h'):Ok Tryz.prog ae ov 57 [] h K:=by
 have z:=Ext.refl h
 rw [ao h]
 refine Ok.aD rfl zAa (br N57) rfl (m:=4) rfl ?_
 simp -implicitDefEqProofs only [syms,aa,seval,c57,ec,Tb,jK,Gl]
 refine hk _ (h.size+1) (h.size+0) (z.aw _ _ (by omega)) ?_ (by omega) (by omega)
 have hs:(h.lay [bh.map [] 0,bh.row [Value.slice none 0 0,Value.slice none 0 0,Value.map (some (h.size+0))] 115 false] h.low).size=h.size+2:=by rw [bB];rfl
 refine ⟨⟨_,_,⟨by omega,by rw [kX];rfl⟩,.nil,.nil⟩,cC.new ⟨by omega,by rw [kX];rfl⟩,⟨by omega,by omega,by omega,by omega,by omega,by omega⟩,⟨by omega,by omega,by omega,by omega⟩,⟨by omega,by omega,by omega,by omega⟩⟩
theorem zCK {f f2:List Int} {e e2:List eD} {kv kw:List (ByteArray × Value)} {us vs:ByteArray→Nat} (p:cK f e kv us) (q:cK f2 e2 kw vs) (h:∀ x,0 < us x↔0 < vs x):kv.length=kw.length:=ztL p.kn q.kn fun t=>by rw [p.has,q.has];exact h t
theorem zH0 {f f2:List Int} {e e2:List eD} {kv kw:List (ByteArray × Value)} {us:ByteArray→Nat} {t:ByteArray} (p:cK f e kv us) (q:cK f2 e2 kw (gg us t (us t+1))):kw.length≤kv.length+1:=by
 have h1:kw.length=(fo kv t undef).length:=ztL q.kn (OS p.kn t _) fun x=>by
  rw [q.has,Gh]
  by_cases hx:x=t
  ·rw [if_pos hx,hx,vf];simp
  ·rw [if_neg hx,sg hx,p.has]
 have h2:=congrArg List.length (znK kv t undef)
 rw [List.length_map] at h2
 rw [h1,h2]
 split
 ·rw [List.length_map];omega
 ·rw [List.length_append,List.length_map];simp
theorem zCJ {f f2:List Int} {e e2:List eD} {kv kw:List (ByteArray × Value)} {us:ByteArray→Nat} {t:ByteArray} {n:Nat} (p:cK f e kv us) (q:cK f2 e2 kw (gg us t n)) (ht:0 < us t):kw.length≤kv.length:=by
 by_cases hn:n=0
 ·have h1:kw.length=(k8 kv t).length:=ztL q.kn (YR p.kn t) fun x=>by
   rw [q.has,Zf]
   by_cases hx:x=t
   ·rw [if_pos hx,hx,vf,hn];simp
   ·rw [if_neg hx,sg hx,p.has]
  rw [h1]
  exact List.length_filter_le _ _
 ·refine Nat.le_of_eq (zCK q p fun x=>?_)
  by_cases hx:x=t
  ·rw [hx,vf];omega
  ·rw [sg hx]
def dN (N b:Nat) (h:Heap) (D:List Nat) (T0:Nat) (us:ByteArray→Nat):Prop:=∃ FI FE FM free aJ kv,D=[T0,FI,FE,FM]∧dY N h T0 FI FE FM free aJ kv∧cK free aJ kv us∧aJ.length≤b∧kv.length≤b
theorem dN.lay {N b:Nat} {h:Heap} {D:List Nat} {T0:Nat} {us:ByteArray→Nat} (t:dN N b h D T0 us) (bs:List bh) (w:Nat):dN N b (h.lay bs w) D T0 us:=by
 obtain ⟨FI,FE,FM,free,aJ,kv,rfl,st,p⟩:=t
 exact ⟨FI,FE,FM,free,aJ,kv,rfl,st.lay _ _,p⟩
theorem dN.over {N b w:Nat} {h h2:Heap} {bs:List bh} {D:List Nat} {T0:Nat} {us:ByteArray→Nat} (t:dN N b h D T0 us) (x:Ext (h.lay bs w) h2):dN N b h2 D T0 us:=by
 obtain ⟨FI,FE,FM,free,aJ,kv,rfl,st,p⟩:=t
 exact ⟨FI,FE,FM,free,aJ,kv,rfl,st.over x,p⟩
theorem dN.dL {N b:Nat} {h h2:Heap} {D D2:List Nat} {T0:Nat} {us:ByteArray→Nat} (t:dN N b h D T0 us) (f:aT D2 h h2) (hd:∀ B∈D,B ∉ D2):dN N b h2 D T0 us:=by
 obtain ⟨FI,FE,FM,free,aJ,kv,rfl,st,p⟩:=t
 exact ⟨FI,FE,FM,free,aJ,kv,rfl,st.dL f ⟨hd _ (by simp),hd _ (by simp),hd _ (by simp),hd _ (by simp)⟩,p⟩
theorem dN.lo {N b:Nat} {h:Heap} {D:List Nat} {T0:Nat} {us:ByteArray→Nat} (t:dN N b h D T0 us):∀ B∈D,N≤B∧B < h.size:=by
 obtain ⟨FI,FE,FM,free,aJ,kv,rfl,st,p⟩:=t
 obtain ⟨_,_,_,lo,hi⟩:=st
 intro B hB
 simp only [List.mem_cons,List.not_mem_nil,or_false] at hB
 rcases hB with rfl|rfl|rfl|rfl
 ·exact ⟨lo.1,hi.1⟩
 ·exact ⟨lo.2.1,hi.2.1⟩
 ·exact ⟨lo.2.2.1,hi.2.2.1⟩
 ·exact ⟨lo.2.2.2,hi.2.2.2⟩
theorem dN.le {N b b2:Nat} {h:Heap} {D:List Nat} {T0:Nat} {us:ByteArray→Nat} (t:dN N b h D T0 us) (hb:b≤b2):dN N b2 h D T0 us:=by
 obtain ⟨FI,FE,FM,free,aJ,kv,rfl,st,p,he,hv⟩:=t
 exact ⟨FI,FE,FM,free,aJ,kv,rfl,st,p,by omega,by omega⟩
theorem zw6 (h hc:Heap) (z:Ext h hc) (D:List Nat) (T0 b:Nat) (us:ByteArray→Nat) (t:ByteArray) (st:dN h.size b hc D T0 us) (hb:b < 65536) (ht:t.size≠0) (ht2:t.size≤255) (jE:us t < 1000000000000) (K:Value→Heap→Prop)
 (hk:∀ h' n D2,Ext h h'→aT D hc h'→dN h.size (b+1) h' D2 T0 (gg us t (us t+1))→(∀ B∈D2,B∈D∨hc.size≤B)→K (.tuple #[.int .i64 n,.int .i64 0]) h'):Ok Tryz.prog ae ov 65 [.pointer (some ⟨T0,0,none⟩),.string t] hc K:=by
 obtain ⟨FI,FE,FM,free,aJ,kv,rfl,s,p,he,hv⟩:=st
 refine zw7 h hc z T0 FI FE FM free aJ kv us t s p ht ht2 (by omega) (by omega) jE K (fun h' n I2 E2 f2 e2 xI z' fr' s' p' hI hE sF=>hk h' n [T0,I2,E2,FM] z' fr' ⟨I2,E2,FM,f2,e2,xI,rfl,s',p',by omega,by have:=zH0 p p';omega⟩ (fun B hB=>?_))
 simp only [List.mem_cons,List.not_mem_nil,or_false] at hB
 rcases hB with rfl|rfl|rfl|rfl
 ·exact .inl (by simp)
 ·exact hI.imp (fun e=>by rw [e];simp) id
 ·exact hE.imp (fun e=>by rw [e];simp) id
 ·exact .inl (by simp)
theorem dN.num {N b:Nat} {h:Heap} {D:List Nat} {T0:Nat} {us:ByteArray→Nat} {t:ByteArray} (d:dN N b h D T0 us) (ht:0 < us t):∃ FI FE FM free aJ kv,∃ i:Nat,D=[T0,FI,FE,FM]∧dY N h T0 FI FE FM free aJ kv∧cK free aJ kv us∧aJ.length≤b∧kv.length≤b∧cZ kv t=some (.int .i64 (i:Int)):=by
 obtain ⟨FI,FE,FM,free,aJ,kv,rfl,s,p,he,hv⟩:=d
 have h1:=(p.has t).2 ht
 cases hl:cZ kv t with
 |none=>rw [hl] at h1;cases h1
 |some v =>
  obtain ⟨i,rfl,_⟩:=p.val t v hl
  exact ⟨FI,FE,FM,free,aJ,kv,i,rfl,s,p,he,hv,hl⟩
theorem Ys (a:Value):([a]:List Value)[0]? = some a:=rfl
theorem dP (a) (h:Heap) (K:Value→Heap→Prop):aU (some (.pointer (some a))) h K=K (.pointer (some a)) h:=rfl
theorem zkR {l:List ByteArray} {i:Nat} {c:ByteArray} (hn:l.Nodup) (hc:l[i]? = some c):c ∉ l.take i:=fun hm=>by
 have h1:=List.take_append_drop i l
 rw [← h1,List.nodup_append] at hn
 obtain ⟨hi,qJ⟩:=List.getElem?_eq_some_iff.1 hc
 exact hn.2.2 c hm c (by rw [List.drop_eq_getElem_cons hi,qJ];exact List.mem_cons_self) rfl
open Classical in
noncomputable def jt (us:ByteArray→Nat) (l:List ByteArray):ByteArray→Nat:=fun x=>if x∈l then us x+1 else us x
open Classical in
noncomputable def iI (us:ByteArray→Nat) (l:List ByteArray):ByteArray→Nat:=fun x=>if x∈l then us x - 1 else us x
theorem zwe {us:ByteArray→Nat} {l:List ByteArray} {i:Nat} {c:ByteArray} (hn:l.Nodup) (hc:l[i]? = some c):gg (jt us (l.take i)) c (jt us (l.take i) c+1)=jt us (l.take (i+1))∧jt us (l.take i) c=us c:=by
 have h0:jt us (l.take i) c=us c:=if_neg (zkR hn hc)
 refine ⟨funext fun x=>?_,h0⟩
 have ht:l.take (i+1)=l.take i++[c]:=by rw [List.take_add_one,hc];rfl
 rw [ht]
 by_cases hx:x=c
 ·subst hx
  rw [vf,h0]
  unfold jt
  rw [if_pos (by simp)]
 ·rw [sg hx]
  unfold jt
  by_cases hm:x∈l.take i
  ·rw [if_pos hm,if_pos (by simp [hm])]
  ·rw [if_neg hm,if_neg (by simp [hm,hx])]
theorem zzp {us:ByteArray→Nat} {l:List ByteArray} {i:Nat} {c:ByteArray} (hn:l.Nodup) (hc:l[i]? = some c):gg (iI us (l.take i)) c (iI us (l.take i) c - 1)=iI us (l.take (i+1))∧iI us (l.take i) c=us c:=by
 have h0:iI us (l.take i) c=us c:=if_neg (zkR hn hc)
 refine ⟨funext fun x=>?_,h0⟩
 have ht:l.take (i+1)=l.take i++[c]:=by rw [List.take_add_one,hc];rfl
 rw [ht]
 by_cases hx:x=c
 ·subst hx
  rw [vf,h0]
  unfold iI
  rw [if_pos (by simp)]
 ·rw [sg hx]
  unfold iI
  by_cases hm:x∈l.take i
  ·rw [if_pos hm,if_pos (by simp [hm])]
  ·rw [if_neg hm,if_neg (by simp [hm,hx])]
theorem zBx (us:ByteArray→Nat):jt us []=us:=funext fun x=>if_neg (by simp)
theorem zC9 (us:ByteArray→Nat):iI us []=us:=funext fun x=>if_neg (by simp)
theorem zw5 (a:ab) (h hc:Heap) (z:Ext h hc) (D:List Nat) (T0 b:Nat) (us:ByteArray→Nat) (st:dN h.size b hc D T0 us) (hb:b < 60000) (dB:∀ x,vq a x→x.size≠0∧x.size≤255) (jE:∀ x,us x < 1000000000) (K:Value→Heap→Prop)
 (hk:∀ h' cs D2,Ext h h'→aT D hc h'→cs.length≤4→cs.Nodup→(∀ x,x∈cs↔vq a x)→dN h.size (b+4) h' D2 T0 (jt us cs)→(∀ B∈D2,B∈D∨hc.size≤B)→K undef h'):Ok Tryz.prog ae ov 34 [.agg #[.pointer (some ⟨T0,0,none⟩)],a.val] hc K:=by
 rw [ao hc]
 refine Ok.aD rfl zzP (br N34) rfl (m:=16) rfl ?_
 simp -implicitDefEqProofs only [syms,aa,seval,Fm,eW,↓ff,eR,dQ]
 have IP:∀ B∈D,B < hc.size:=fun B hB=>(st.lo B hB).2
 refine zkE a _ _ (fun w cs h' x s vQ iw b8=>?_)
 have q0:=Holds.top (i:=0) x rfl
 have fr:aT D hc h':=(aT.refl D hc).over x
 (replace z:=z.an x (by omega);(replace st:=st.over x);rw [ao h'])
 replace s:=s D (fun B hB=>by rw [bB];have:=IP B hB;omega)
 obtain ⟨A0,dS⟩:∃ A0,A0=hc.size+0:=⟨_,rfl⟩
 rw [← dS] at q0
 rw [← dS]
 have tL:A0 ∉ D:=fun hm=>by have:=IP _ hm;omega
 rw [← zBx us] at st
 have jm:=cJ w
 have rQ:=fun (hh:Heap)=>s.bd cM hh
 simp -implicitDefEqProofs only [syms,aa,seval,Fm,jm,rQ]
 obtain ⟨I1,aR⟩:∃ I:Nat→Env→Heap→Prop,I=(fun n e h'=>∃ (i:Nat) (D1:List Nat) (h1:Heap),h'=h1.lay [] h1.low∧Ext h h1∧(n=cs.length - i∧i≤cs.length∧dN h.size (b+i) h1 D1 T0 (jt us (cs.take i))∧Holds h1 A0 (.row [.pointer (some ⟨T0,0,none⟩)] 78 false)∧A0 ∉ D1∧Sl aK.str (aN D1 h1) w cs∧aT D hc h1∧(∀ B∈D1,B∈D∨hc.size≤B))∧∃ J:Nat→Value,e=(jr J 0 2 (.pointer (some ⟨A0,0,none⟩)::jr J 3 4 (w::.int .i64 cs.length::.int .i64 i::jr J 10 8 ([]))))):=⟨_,rfl⟩
 refine dg I1 _ (by rw [aR];exact ⟨0,D,_,rfl,z,⟨rfl,by omega,st,q0,tL,s,fr,fun B hB=>.inl hB⟩,aB (by kernel_rfl)⟩) ?_
 intro n e h' aH
 rw [aR] at aH
 obtain ⟨i,D1,bE,rfl,z,hinv,J,rfl⟩:=aH
 clear st q0 s fr tL
 obtain ⟨rfl,hi,st,q0,tL,s,fr,CE⟩:=hinv
 have hs:=s.mono (qt D1 bE)
 have gO:=eg i (by omega)
 have mg:=fr.size
 simp -implicitDefEqProofs only [syms,aa,seval,Fm]
 refine bp (fun aS=>?_) (fun lr=>?_)
 rotate_left
 ·have he:i=cs.length:=by omega
  rw [he,List.take_of_length_le (Nat.le_refl _)] at st
  simp -implicitDefEqProofs only [syms,aa,seval,Fm]
  exact hk _ cs D1 (z.aw _ _ (by omega)) (fr.trans (aT.lay _ _ _ []) (fun _ h=>nomatch h)) vQ iw b8 ((st.lay _ _).le (by omega)) CE
 obtain ⟨c,hr,bo⟩:=eP (l:=cs) (i:=i) (by omega)
 have kC:=dB c ((b8 c).1 (List.mem_of_getElem? bo))
 obtain ⟨j8,uM⟩:=zwe (us:=us) iw bo
 have WV:=jE c
 repeat' (first|simp -implicitDefEqProofs only [syms,aa,seval,Fm,dJ,q0.lay,Ys,dP]|with_reducible_and_instances refine ph hs cM mN (by omega) hr (fun p hp=>?_)|with_reducible_and_instances refine fX hp gU ?_)
 refine zw6 h _ (z.aw _ _ (by omega)) D1 T0 (b+i) _ c (st.lay _ _) (by omega) kC.1 kC.2 (by rw [uM];omega) _ (fun h3 nn D2 z3 fh fe tM=>?_)
 rw [j8] at fe
 have nj:aT D1 bE h3:=(aT.lay bE [] bE.low D1).trans fh (fun B hB=>.inl hB)
 have s3:=s.mono (nj.inc (D':=D2) (fun B hB=>(tM B hB).imp id (fun e=>by rw [bB] at e;omega)))
 have q3:=q0.dL nj tL
 have CD:A0 ∉ D2:=fun hm=>by
  rcases tM _ hm with e|e
  ·exact tL e
  ·have:=q0.lt;rw [bB] at e;omega
 have nT:aT D hc h3:=fr.trans nj (fun B hB=>CE B hB)
 have tO:∀ B∈D2,B∈D∨hc.size≤B:=fun B hB=>(tM B hB).elim (CE B) (fun e=>.inr (by rw [bB] at e;omega))
 clear z
 have z:=z3
 rw [ao h3]
 simp -implicitDefEqProofs only [syms,aa,seval,Fm]
 rw [gO]
 (rw [aR];with_reducible refine cz (m:=_) ?_ ⟨i+1,D2,_,rfl,z,⟨rfl,by omega,fe.le (by omega),q3,CD,s3,nT,tO⟩,aB (by kernel_rfl)⟩;omega)
theorem zwX (a:ab) (h hc:Heap) (z:Ext h hc) (D:List Nat) (T0 b:Nat) (us:ByteArray→Nat) (st:dN h.size b hc D T0 us) (hb:b < 60000) (jB:∀ x,vq a x→0 < us x) (jE:∀ x,us x < 1000000000) (K:Value→Heap→Prop)
 (hk:∀ h' cs D2,Ext h h'→aT D hc h'→cs.length≤4→cs.Nodup→(∀ x,x∈cs↔vq a x)→dN h.size b h' D2 T0 (iI us cs)→(∀ B∈D2,B∈D∨hc.size≤B)→K undef h'):Ok Tryz.prog ae ov 38 [.agg #[.pointer (some ⟨T0,0,none⟩)],a.val] hc K:=by
 rw [ao hc]
 refine Ok.aD rfl zzS (br N38) rfl (m:=26) rfl ?_
 simp -implicitDefEqProofs only [syms,aa,seval,Cp,eW,↓ff,eR,dQ]
 have IP:∀ B∈D,B < hc.size:=fun B hB=>(st.lo B hB).2
 refine zkE a _ _ (fun w cs h' x s vQ iw b8=>?_)
 have q0:=Holds.top (i:=0) x rfl
 have fr:aT D hc h':=(aT.refl D hc).over x
 (replace z:=z.an x (by omega);(replace st:=st.over x);rw [ao h'])
 replace s:=s D (fun B hB=>by rw [bB];have:=IP B hB;omega)
 obtain ⟨A0,dS⟩:∃ A0,A0=hc.size+0:=⟨_,rfl⟩
 rw [← dS] at q0
 rw [← dS]
 have tL:A0 ∉ D:=fun hm=>by have:=IP _ hm;omega
 rw [← zC9 us] at st
 have jm:=cJ w
 have rQ:=fun (hh:Heap)=>s.bd cM hh
 simp -implicitDefEqProofs only [syms,aa,seval,Cp,jm,rQ]
 obtain ⟨I1,aR⟩:∃ I:Nat→Env→Heap→Prop,I=(fun n e h'=>∃ (i:Nat) (D1:List Nat) (h1:Heap),h'=h1.lay [] h1.low∧Ext h h1∧(n=cs.length - i∧i≤cs.length∧dN h.size b h1 D1 T0 (iI us (cs.take i))∧Holds h1 A0 (.row [.pointer (some ⟨T0,0,none⟩)] 78 false)∧A0 ∉ D1∧Sl aK.str (aN D1 h1) w cs∧aT D hc h1∧(∀ B∈D1,B∈D∨hc.size≤B))∧∃ J:Nat→Value,e=(jr J 0 2 (.pointer (some ⟨A0,0,none⟩)::jr J 3 6 (w::.int .i64 cs.length::.int .i64 i::jr J 12 16 ([]))))):=⟨_,rfl⟩
 refine dg I1 _ (by rw [aR];exact ⟨0,D,_,rfl,z,⟨rfl,by omega,st,q0,tL,s,fr,fun B hB=>.inl hB⟩,aB (by kernel_rfl)⟩) ?_
 intro n e h' aH
 rw [aR] at aH
 obtain ⟨i,D1,bE,rfl,z,hinv,J,rfl⟩:=aH
 clear st q0 s fr tL
 obtain ⟨rfl,hi,st,q0,tL,s,fr,CE⟩:=hinv
 have hs:=s.mono (qt D1 bE)
 have gO:=eg i (by omega)
 have mg:=fr.size
 simp -implicitDefEqProofs only [syms,aa,seval,Cp]
 refine bp (fun aS=>?_) (fun lr=>?_)
 rotate_left
 ·have he:i=cs.length:=by omega
  rw [he,List.take_of_length_le (Nat.le_refl _)] at st
  simp -implicitDefEqProofs only [syms,aa,seval,Cp]
  exact hk _ cs D1 (z.aw _ _ (by omega)) (fr.trans (aT.lay _ _ _ []) (fun _ h=>nomatch h)) vQ iw b8 ((st.lay _ _).le (by omega)) CE
 obtain ⟨c,hr,bo⟩:=eP (l:=cs) (i:=i) (by omega)
 have kC:=jB c ((b8 c).1 (List.mem_of_getElem? bo))
 obtain ⟨j8,uM⟩:=zzp (us:=us) iw bo
 have WV:=jE c
 repeat' (first|simp -implicitDefEqProofs only [syms,aa,seval,Cp,dJ,q0.lay,Ys,dP]|with_reducible_and_instances refine ph hs cM mN (by omega) hr (fun p hp=>?_)|with_reducible_and_instances refine fX hp gU ?_)
 obtain ⟨FI,FE,FM,free,aJ,kv,m,hDe,ts,tp,ub,pt,hlk⟩:=st.num (t:=c) (by rw [uM];exact kC)
 refine zw1 c (some m) _ T0 FI FE FM h.size free aJ kv (ts.lay _ _) hlk _ (fun h' x=>?_)
 replace ts:=ts.over x
 have Ft:aT D1 bE h':=(aT.refl D1 bE).over x
 (replace z:=z.an x (by omega);(replace st:=st.over x);(replace q0:=q0.over x);rw [ao h'])
 simp only [Option.getD_some,Option.isSome_some]
 repeat' (simp -implicitDefEqProofs only [syms,aa,seval,Cp,bj,ij,q0.lay,Ys,dP])
 refine zwY h _ (z.aw _ _ (by omega)) T0 FI FE FM free aJ kv _ c m (ts.lay _ _) tp hlk (by omega) (by rw [uM];omega) _ (fun h3 I2 f2 e2 xI z3 fh fe tp3 hI sF=>?_)
 obtain ⟨D2,IM⟩:∃ D2,D2=[T0,I2,FE,FM]:=⟨_,rfl⟩
 replace fe:dN h.size b h3 D2 T0 (gg (iI us (cs.take i)) c (iI us (cs.take i) c - 1)):=⟨I2,FE,FM,f2,e2,xI,IM,fe,tp3,by omega,by have:=zCJ tp tp3 (by rw [uM];exact kC);omega⟩
 rw [← hDe] at fh
 have tM:∀ B∈D2,B∈D1∨(h'.lay [] h'.low).size≤B:=fun B hB=>by
  rw [IM] at hB
  rw [hDe]
  simp only [List.mem_cons,List.not_mem_nil,or_false] at hB
  rcases hB with rfl|rfl|rfl|rfl
  ·exact .inl (by simp)
  ·exact hI.imp (fun e=>by rw [e];simp) id
  ·exact .inl (by simp)
  ·exact .inl (by simp)
 rw [j8] at fe
 have nj:aT D1 bE h3:=(Ft.trans (aT.lay h' [] h'.low D1) (fun B hB=>.inl hB)).trans fh (fun B hB=>.inl hB)
 have xz:=Ft.size
 have s3:=s.mono (nj.inc (D':=D2) (fun B hB=>(tM B hB).imp id (fun e=>by rw [bB] at e;omega)))
 have q3:=q0.dL ((aT.lay h' [] h'.low D1).trans fh (fun B hB=>.inl hB)) tL
 have CD:A0 ∉ D2:=fun hm=>by
  rcases tM _ hm with e|e
  ·exact tL e
  ·have:=q0.lt;rw [bB] at e;omega
 have nT:aT D hc h3:=fr.trans nj (fun B hB=>CE B hB)
 have tO:∀ B∈D2,B∈D∨hc.size≤B:=fun B hB=>(tM B hB).elim (CE B) (fun e=>.inr (by rw [bB] at e;omega))
 clear z
 have z:=z3
 rw [ao h3]
 simp -implicitDefEqProofs only [syms,aa,seval,Cp]
 rw [gO]
 (rw [aR];with_reducible refine cz (m:=_) ?_ ⟨i+1,D2,_,rfl,z,⟨rfl,by omega,fe.le (by omega),q3,CD,s3,nT,tO⟩,aB (by kernel_rfl)⟩;omega)
end Go.Proofs.YtdplfgoifjjniaaGreatDoor
