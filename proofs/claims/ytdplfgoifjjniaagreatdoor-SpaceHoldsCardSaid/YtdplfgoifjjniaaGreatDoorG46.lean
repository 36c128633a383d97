/- The code of some functions, node by node, for simp. Written by a program (mkcode.py). No condition. -/
import Derived.Test.YtdplfgoifjjniaaGreatDoorG33
set_option linter.unusedSimpArgs false
set_option linter.unusedVariables false
set_option maxRecDepth 100000
set_option maxHeartbeats 0
namespace Go.Proofs.YtdplfgoifjjniaaGreatDoor
open Go.Am
noncomputable def N51:=bq Tryz.f51
noncomputable def x51:=PLift.up (by have c:=bu N51 Tryz.f51;simp only [aE,Tryz.f51,seval] at c;exact nd c <| nd @BA <| nd @kV <| @Up)
theorem c51:type_of% x51.down:=x51.down
noncomputable def G6:=bq Tryz.f106
noncomputable def KL:=PLift.up (by have c:=bu G6 Tryz.f106;simp only [aE,Tryz.f106,seval] at c;exact nd c <| nd @EK <| nd @EL <| nd @wq <| nd @oT <| nd @b9 <| nd @gf <| @zGY)
theorem iU:type_of% KL.down:=KL.down
noncomputable def N76:=bq Tryz.f76
noncomputable def x76:=PLift.up (by have c:=bu N76 Tryz.f76;simp only [aE,Tryz.f76,seval] at c;exact nd c <| nd @ri <| nd @b9 <| nd @gf <| @UN)
theorem Fp:type_of% x76.down:=x76.down
noncomputable def N49:=bq Tryz.f49
noncomputable def x49:=PLift.up (by have c:=bu N49 Tryz.f49;simp only [aE,Tryz.f49,seval] at c;exact nd c <| nd @b9 <| @Un)
theorem Ag:type_of% x49.down:=x49.down
noncomputable def N26:=bq Tryz.f26
noncomputable def x26:=PLift.up (by have c:=bu N26 Tryz.f26;simp only [aE,Tryz.f26,seval] at c;exact nd c <| nd @jf <| nd @b9 <| nd @ia <| @TZ)
theorem vG:type_of% x26.down:=x26.down
end Go.Proofs.YtdplfgoifjjniaaGreatDoor
namespace Go.Am
open Go.Lib
theorem ZU (n m:List UInt8) (ns:List (List UInt8)):join (n::m::ns) cT=n++(cT++join (m::ns) cT):=by
 simp [join,List.intercalate]
theorem ztI (n:List UInt8):join [n] cT=n:=by simp [join,List.intercalate]
theorem zm2:∀ (l:List (List UInt8)) (x:List UInt8),l≠[]→join (l++[x]) cT=join l cT++cT++x
 | [],x,h=>absurd rfl h
 | [a],x,_=>by
  rw [List.cons_append,List.nil_append,ZU,ztI,ztI,List.append_assoc]
 |a::b::l,x,_=>by
  rw [List.cons_append,List.cons_append,ZU,ZU,← List.cons_append,zm2 (b::l) x (by simp)]
  simp only [List.append_assoc]
def su (ns:List (List UInt8)):List UInt8:=if ns=[] then [] else 40::join ns cT
theorem zuG (x:List UInt8):su [x]=[40]++x:=by unfold su;rw [if_neg (by simp),ztI];rfl
theorem zr9 {l:List (List UInt8)} (x:List UInt8) (h:l≠[]):su (l++[x])=su l++cT++x:=by
 unfold su
 rw [if_neg (by simp),if_neg h,zm2 l x h]
 rfl
theorem zvQ (a:ab):cO a=a.says.data.toList++GV++(a.pred.data.toList++su (iC a)++(if a.cx=0 then [] else [41])):=by
 have h1:(iC a=[])↔a.args=[]:=by unfold iC;rw [List.map_eq_nil_iff]
 have h2:a.args=[]↔a.cx=0:=by rw [← List.length_eq_zero_iff,sS]
 unfold cO su
 by_cases h:a.cx=0
 ·rw [if_pos (h2.2 h),if_pos (h1.2 (h2.2 h)),if_pos h]
  simp only [List.append_assoc,List.append_nil]
 ·have h3:¬ a.args=[]:=fun e=>h (h2.1 e)
  rw [if_neg h3,if_neg (fun e=>h3 (h1.1 e)),if_neg h]
  simp only [List.append_assoc,List.cons_append,List.nil_append]
theorem zwR {a:ab} {i:Nat} (h:i < a.cx):(iC a).take (i+1)=(iC a).take i++[(a.arg i).s.data.toList]:=by
 have hc:a.cx≤4:=Nat.min_le_right _ _
 have e:a.args[i]? = some (a.arg i):=by
  unfold ab.args
  rw [List.getElem?_take,if_pos h]
  have:i=0∨i=1∨i=2∨i=3:=by omega
  rcases this with rfl|rfl|rfl|rfl <;> rfl
 rw [List.take_add_one]
 congr 1
 unfold iC
 rw [List.getElem?_map,e]
 rfl
theorem znd (a:ab):(iC a).length=a.cx:=by unfold iC;rw [List.length_map,sS]
theorem Zv:∀ a b:List UInt8,Op.bytesLess a b=decide (compareBytes a b < 0)
 | [],[]=>by simp [Op.bytesLess,compareBytes]
 | [],_::_=>by simp [Op.bytesLess,compareBytes]
 |_::_,[]=>by simp [Op.bytesLess,compareBytes]
 |a::xs,b::ys=>by
  rw [compareBytes]
  unfold Op.bytesLess
  rw [Zv xs ys]
  by_cases h1:a < b
  ·simp [h1]
  ·by_cases h2:b < a
   ·have h3:a≠b:=fun e=>by subst e;exact YN a h2
    simp [h1,h2,h3]
   ·have h3:=zqF h1 h2
    simp [h1,h2,h3]
theorem zwn (a b:List UInt8):(Op.bytesLess a b=true∧compareBytes a b = -1)∨(Op.bytesLess a b=false∧Op.bytesLess b a=true∧compareBytes a b=1)∨(Op.bytesLess a b=false∧Op.bytesLess b a=false∧compareBytes a b=0):=by
 have h1:=Zv a b
 have h2:=Zv b a
 have h3:=ZH a b
 rcases zmr a b with h|h|h
 ·exact .inl ⟨by rw [h1,h];rfl,h⟩
 ·refine .inr (.inr ⟨by rw [h1,h];rfl,?_,h⟩)
  rw [h2,decide_eq_false_iff_not]
  omega
 ·refine .inr (.inl ⟨by rw [h1,h];rfl,?_,h⟩)
  rw [h2,decide_eq_true_iff]
  omega
end Go.Am
namespace Go.Proofs.YtdplfgoifjjniaaGreatDoor
open Go.Am
theorem Zr {P:Program} {T:bD} {t:TypeId} {a b:ByteArray}:bU P T .lss t (.string a) (.string b)=some (.bool (Op.bytesLess a.data.toList b.data.toList)):=by
 refine ME rfl ?_ rfl
 unfold Op.stringOp
 simp only [F3]
 rfl
theorem zpU {P:Program} {T:bD} {t:TypeId} {a b:ByteArray}:bU P T .gtr t (.string a) (.string b)=some (.bool (!(Op.bytesLess a.data.toList b.data.toList || a.data.toList == b.data.toList))):=by
 refine ME rfl ?_ rfl
 unfold Op.stringOp
 simp only [F3]
 rfl
theorem zB0 (a:ab):a.cells[2]? = some (.int .i64 a.n):=rfl
theorem Pd (a:ab) (h:Heap) (K:Value→Heap→Prop) (hk:∀ h',Ext h h'→K (.int .i64 (a.cx:Nat)) h'):Ok Tryz.prog ae ov 51 [a.val] h K:=by
 rw [ao h]
 have z:=Ext.refl h
 have e:((a.cx:Nat):Int)=if 4 < (if a.n < 0 then 0 else a.n) then 4 else if a.n < 0 then 0 else a.n:=by
  unfold ab.cx
  split <;> split <;> (skip) <;> omega
 rw [e] at hk
 refine Ok.aD rfl zz4 (br N51) rfl (m:=6) rfl ?_
 repeat' (first|simp -implicitDefEqProofs only [syms,aa,seval,c51,eW,zB0]|((with_reducible_and_instances apply ztW);(· rfl);(· rfl))|((with_reducible_and_instances apply ztS);(· rfl);(· rfl)))
 exact hk _ (z.aw _ _ (by omega))
theorem zwp (a:ab) (k:Nat) (hk:k < 4):a.cells[3+k*2+1]? = some (.string (a.arg k).s):=by
 have:k=0∨k=1∨k=2∨k=3:=by omega
 rcases this with rfl|rfl|rfl|rfl <;> rfl
theorem zCW (a:ab) (ha:a.ba=true) (h:Heap) (K:Value→Heap→Prop)
 (hk:∀ h' (S:ByteArray),Ext h h'→S.data.toList=a.pred.data.toList++su (iC a)++(if a.cx=0 then [] else [41])→S.size≤2000→K (.string S) h'):Ok Tryz.prog ae ov 106 [a.val] h K:=by
 rw [ao h]
 have z:=Ext.refl h
 obtain ⟨xz,j7⟩:=Y2 ha
 have hc4:a.cx≤4:=Nat.min_le_right _ _
 refine Ok.aD rfl zuX (br G6) rfl (m:=31) rfl ?_
 simp -implicitDefEqProofs only [syms,aa,seval,iU,eW,zoo]
 refine lG (fun h' x hq=>?_)
 have q0:=hq 0 _ rfl
 clear hq
 (replace z:=z.an x (by omega);rw [ao h'])
 obtain ⟨I1,aR⟩:∃ I:Nat→Env→Heap→Prop,I=(fun n e h'=>∃ (i:Nat) (S:ByteArray) (h1:Heap),h'=h1.lay [] h1.low∧Ext h h1∧(n=a.cx - i∧i≤a.cx∧S.data.toList=a.pred.data.toList++su ((iC a).take i)∧S.size≤300+i*310∧Holds h1 (h.size+0) (.row a.cells 42 false))∧∃ J:Nat→Value,e=(J 0::.pointer (some ⟨h.size+0,0,none⟩)::J 2::.string S::.int .i64 i::jr J 5 27 ([]))):=⟨_,rfl⟩
 refine dg I1 _ (by rw [aR];exact ⟨0,a.pred,_,rfl,z,⟨rfl,by omega,by simp [su],by omega,q0⟩,aB (by kernel_rfl)⟩) ?_
 intro n e h' aH
 rw [aR] at aH
 obtain ⟨i,S,bE,rfl,z,hinv,J,rfl⟩:=aH
 clear q0
 obtain ⟨rfl,hi,hS,hSz,q0⟩:=hinv
 have gO:=eg i (by omega)
 repeat' (simp -implicitDefEqProofs only [syms,aa,seval,iU,q0.lay,↓ff,eR,dQ])
 refine Pd a _ _ (fun h' x=>?_)
 (replace z:=z.an x (by omega);(replace q0:=q0.over x);rw [ao h'])
 simp -implicitDefEqProofs only [syms,aa,seval,iU,q0.lay,↓ff,eR,dQ]
 refine bp (fun aS=>?_) (fun aS=>?_)
 ·have qg:(0:Int)≤(i:Int)∧(i:Int) < 4:=by omega
  have eX:=zwp a i (by omega)
  have uC:=zwR (a:=a) (i:=i) (by omega)
  have FG:=Me ha i
  simp -implicitDefEqProofs only [syms,aa,seval,iU]
  refine pK (fun h0=>?_) (fun h0=>?_)
  ·have h0:i=0:=by omega
   simp -implicitDefEqProofs only [syms,aa,seval,iU]
   refine sO ?_ (fun S1 vM qn=>?_)
   ·show S.size+1≤_
    omega
   repeat' (simp -implicitDefEqProofs only [syms,aa,seval,iU,q0.lay,qg,eX,and_self,if_true])
   refine sO ?_ (fun S2 CL mh=>?_)
   ·rw [qn]
    show S.size+1+_≤_
    omega
   have A7:S2.size≤300+(i+1)*310:=by
    rw [mh,qn]
    show S.size+1+_≤_
    omega
   have CM:S2.data.toList=a.pred.data.toList++su ((iC a).take (i+1)):=by
    rw [CL,s8,vM,s8,hS,uC,h0,List.take_zero,List.nil_append,zuG]
    simp [su]
   repeat' (simp -implicitDefEqProofs only [syms,aa,seval,iU])
   rw [gO]
   (rw [aR];with_reducible refine cz (m:=_) ?_ ⟨i+1,S2,_,rfl,z,⟨rfl,by omega,CM,A7,q0⟩,aB (by kernel_rfl)⟩;omega)
  ·have h0:i≠0:=by omega
   simp -implicitDefEqProofs only [syms,aa,seval,iU]
   refine sO ?_ (fun S1 vM qn=>?_)
   ·show S.size+2≤_
    omega
   repeat' (simp -implicitDefEqProofs only [syms,aa,seval,iU,q0.lay,qg,eX,and_self,if_true])
   refine sO ?_ (fun S2 CL mh=>?_)
   ·rw [qn]
    show S.size+2+_≤_
    omega
   have A7:S2.size≤300+(i+1)*310:=by
    rw [mh,qn]
    show S.size+2+_≤_
    omega
   have CM:S2.data.toList=a.pred.data.toList++su ((iC a).take (i+1)):=by
    have aO:(iC a).take i≠[]:=fun e=>by
     have:=congrArg List.length e
     rw [List.length_take,znd,List.length_nil] at this
     omega
    rw [CL,s8,vM,s8,hS,uC,zr9 _ aO]
    simp only [List.append_assoc]
    rfl
   repeat' (simp -implicitDefEqProofs only [syms,aa,seval,iU])
   rw [gO]
   (rw [aR];with_reducible refine cz (m:=_) ?_ ⟨i+1,S2,_,rfl,z,⟨rfl,by omega,CM,A7,q0⟩,aB (by kernel_rfl)⟩;omega)
 have aH:i=a.cx:=by omega
 rw [List.take_of_length_le (by rw [znd];omega)] at hS
 repeat' (simp -implicitDefEqProofs only [syms,aa,seval,iU,q0.lay,↓ff,eR,dQ])
 refine Pd a _ _ (fun h' x=>?_)
 (replace z:=z.an x (by omega);(replace q0:=q0.over x);rw [ao h'])
 simp -implicitDefEqProofs only [syms,aa,seval,iU]
 refine bp (fun jB=>?_) (fun jB=>?_)
 ·repeat' ( simp -implicitDefEqProofs only [syms,aa,seval,iU])
  refine sO ?_ (fun S1 vM qn=>?_)
  ·show S.size+1≤_
   omega
  repeat' (simp -implicitDefEqProofs only [syms,aa,seval,iU])
  refine hk _ S1 (z.aw _ _ (by omega)) ?_ (by rw [qn];show S.size+1≤_;omega)
  rw [vM,s8,hS,if_neg (by omega)]
 ·repeat' ( simp -implicitDefEqProofs only [syms,aa,seval,iU])
  refine hk _ S (z.aw _ _ (by omega)) ?_ (by omega)
  rw [hS,if_pos (by omega),List.append_nil]
theorem zqo (a:ab) (ha:a.ba=true) (h:Heap) (K:Value→Heap→Prop)
 (hk:∀ h',Ext h h'→K (.string ⟨(cO a).toArray⟩) h'):Ok Tryz.prog ae ov 76 [a.val] h K:=by
 rw [ao h]
 have z:=Ext.refl h
 obtain ⟨xz,j7⟩:=Y2 ha
 refine Ok.aD rfl zAt (br N76) rfl (m:=8) rfl ?_
 repeat' (simp -implicitDefEqProofs only [syms,aa,seval,Fp,eW,Pj])
 refine (eu (by simp only [Fp])) (z.aw _ _ (by omega)) ?_
 simp -implicitDefEqProofs only [syms,aa,seval,Fp,Pj,↓ff,eR,dQ]
 refine sO ?_ (fun S1 vM qn=>?_)
 ·show a.says.size+6≤_
  omega
 simp -implicitDefEqProofs only [syms,aa,seval,Fp,↓ff,eR,dQ]
 refine zCW a ha _ _ (fun h' S x hS hSz=>?_)
 (((with_reducible refine dK ?_ ?_ ?_);(· exact (by (simp only [dM]);have:=z.size;omega));(· exact x));replace z:=z.an x (by omega);rw [ao h'])
 simp -implicitDefEqProofs only [syms,aa,seval,Fp]
 refine sO ?_ (fun S2 CL mh=>?_)
 ·rw [qn]
  show a.says.size+6+_≤_
  omega
 have CM:S2=⟨(cO a).toArray⟩:=X6 (by rw [CL,s8,vM,s8,hS,zvQ];rfl)
 repeat' (first|simp -implicitDefEqProofs only [syms,aa,seval,Fp]|((with_reducible refine ⟨z.cW.lay _ _,?_⟩);(intro _ h' zz x _);(simp only [cq,List.append_nil] at x);(replace z:=zz);(clear zz);rw [ao h']))
 rw [CM]
 exact hk _ (z.aw _ _ (by omega))
theorem zCO (a b:ab) (ha:a.ba=true) (hb:b.ba=true) (h:Heap) (K:Value→Heap→Prop)
 (hk:∀ h',Ext h h'→K (.int .i64 (aM a b)) h'):Ok Tryz.prog ae ov 49 [a.val,b.val] h K:=by
 rw [ao h]
 have z:=Ext.refl h
 refine Ok.aD rfl zz2 (br N49) rfl (m:=17) rfl ?_
 repeat' (simp -implicitDefEqProofs only [syms,aa,seval,Ag,eW])
 refine (eu (by simp only [Ag])) (z.aw _ _ (by omega)) ?_
 simp -implicitDefEqProofs only [syms,aa,seval,Ag,↓ff,eR,dQ]
 refine zqo a ha _ _ (fun h' x=>?_)
 have q1:=Holds.top (i:=1) x rfl
 (((with_reducible refine dK ?_ ?_ ?_);(· exact (by (simp only [dM]);have:=z.size;omega));(· exact x));replace z:=z.an x (by omega);rw [ao h'])
 repeat' (simp -implicitDefEqProofs only [syms,aa,seval,Ag,q1.lay,↓ff,eR,dQ])
 refine zqo b hb _ _ (fun h' x=>?_)
 (((with_reducible refine dK ?_ ?_ ?_);(· exact (by (simp only [dM]);have:=z.size;omega));(· exact x));replace z:=z.an x (by omega);rw [ao h'])
 repeat' (first|simp -implicitDefEqProofs only [syms,aa,seval,Ag]|((with_reducible refine ⟨z.cW.lay _ _,?_⟩);(intro _ h' zz x _);(simp only [cq,List.append_nil] at x);(replace z:=zz);(clear zz);rw [ao h']))
 have hc:aM a b=Lib.compareBytes (cO a) (cO b):=rfl
 rw [hc] at hk
 rcases zwn (cO a) (cO b) with ⟨h1,h2⟩|⟨h1,h3,h2⟩|⟨h1,h3,h2⟩
 ·rw [h2] at hk
  repeat' (simp -implicitDefEqProofs only [syms,aa,seval,Ag,Zr,h1])
  exact hk _ (z.aw _ _ (by omega))
 ·rw [h2] at hk
  have h4:(cO a == cO b)=false:=by
   cases e:cO a == cO b
   ·rfl
   ·have e2:cO a=cO b:=by simpa using e
    rw [e2,Ms] at h2
    cases h2
  repeat' (simp -implicitDefEqProofs only [syms,aa,seval,Ag,Zr,zpU,h1,h4,Bool.or_false,Bool.not_false])
  exact hk _ (z.aw _ _ (by omega))
 ·rw [h2] at hk
  have h4:(cO a == cO b)=true:=by
   rw [Gs h2]
   simp
  repeat' (simp -implicitDefEqProofs only [syms,aa,seval,Ag,Zr,zpU,h1,h4,Bool.or_true,Bool.not_true])
  exact hk _ (z.aw _ _ (by omega))
end Go.Proofs.YtdplfgoifjjniaaGreatDoor
