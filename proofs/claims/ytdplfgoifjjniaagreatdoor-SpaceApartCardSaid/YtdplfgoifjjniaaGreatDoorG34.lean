/- No function of this group is here. No condition. -/
import Derived.Test.YtdplfgoifjjniaaGreatDoorG25
import Derived.Test.YtdplfgoifjjniaaGreatDoorG27
import Derived.Test.YtdplfgoifjjniaaGreatDoorG33
import Derived.Test.YtdplfgoifjjniaaGreatDoorG14
import Derived.KernelRfl

namespace Go.Proofs.YtdplfgoifjjniaaGreatDoor
open Go.Am
set_option linter.unusedSimpArgs false
set_option linter.unusedVariables false
set_option maxRecDepth 100000
theorem zih (a:Int):zaO Tryz.prog (Next.value <$> convert 3 154 (.int .i64 a))=some (Next.value (.int .u64 (IntKind.u64.wrap a))):=by rfl
theorem zjg (a:Int):zaO Tryz.prog (Next.value <$> convert 154 3 (.int .u64 a))=some (Next.value (.int .i64 (IntKind.i64.wrap a))):=by rfl
theorem zjl {T:Tab} {t:TypeId} {k kd:IntKind} {a b:Int} (hb:¬ b < 0):binA Tryz.prog T .shr t (.int k a) (.int kd b)=some (.int k (a.fdiv (2 ^ (min b.toNat k.bits)))):=by
 have h1:((T.desc t).bind fun d=>zmP d (.int k a) (.int kd b))=none:=by
  cases T.desc t with
  |none=>rfl
  |some d=>cases d <;> rfl
 have h2:zaO Tryz.prog (binOp .shr t (.int k a) (.int kd b))=some (.int k (a.fdiv (2 ^ (min b.toNat k.bits)))):=by
  simp [binOp,Op.shift,hb,zdV]
 unfold binA
 have hf:zcb .shr (.int k a) (.int kd b)=none:=rfl
 rw [hf]
 simp [h1,h2]
 exact ⟨⟨rfl,rfl⟩,rfl⟩
theorem zfP {d} {s t ty:TypeId} {x:Operand} {pos af g} {kk:IntKind} {a:Int} {v:Value} {e:Env} {h:Heap} {K:Value→Heap→Prop} (hs:zbS tab s=false) (ht:zbS tab t=false) (hx:zab e x=.int kk a) (hc:zaO Tryz.prog (Next.value <$> convert s t (.int kk a))=some (Next.value v)) (hv:plain v=true):WOp Tryz.prog tab ov ⟨d,.convert s t x,ty,pos,af,g⟩ e h K=K v h:=by
 rw [znb d ty pos af g e h K s t x hs ht]
 have hp:zaW Tryz.prog e ⟨d,.convert s t x,ty,pos,af,g⟩ h=some (v,h):=by
  unfold zaW
  simp [Op.operands,hx,execOp]
  refine ⟨rfl,?_⟩
  rw [hc]
  simp [hv]
 rw [hp]
 rfl
end Go.Proofs.YtdplfgoifjjniaaGreatDoor
namespace Go.Proofs.YtdplfgoifjjniaaGreatDoor
open Go.Am
set_option linter.unusedSimpArgs false
set_option linter.unusedVariables false
set_option maxRecDepth 100000
set_option maxHeartbeats 0
theorem zvs (a:TermD):cut a.cells 0 2=some a.cells:=rfl
theorem zvM (a:TermD):Value.agg a.cells.toArray=a.val:=rfl
end Go.Proofs.YtdplfgoifjjniaaGreatDoor
namespace Go.Proofs.YtdplfgoifjjniaaGreatDoor
open Go.Am
set_option linter.unusedVariables false
set_option linter.unusedSimpArgs false
set_option maxRecDepth 100000
set_option maxHeartbeats 0
noncomputable def N109:=zaz Tryz.f109
noncomputable def x109:=PLift.up (by have c:=zah N109 Tryz.f109;simp only [zan,Tryz.f109,Option.getD_some,zaj,opsF,opsX,zag,zaA,dstL,zak,List.append_eq,List.cons_append,List.nil_append,seval] at c;exact nd c <| @zEK)
theorem c109:type_of% x109.down:=x109.down
noncomputable def N161:=zaz Tryz.f161
noncomputable def x161:=PLift.up (by have c:=zah N161 Tryz.f161;simp only [zan,Tryz.f161,Option.getD_some,zaj,opsF,opsX,zag,zaA,dstL,zak,List.append_eq,List.cons_append,List.nil_append,seval] at c;exact nd c <| @zFq)
theorem c161:type_of% x161.down:=x161.down
noncomputable def N135:=zaz Tryz.f135
noncomputable def x135:=PLift.up (by have c:=zah N135 Tryz.f135;simp only [zan,Tryz.f135,Option.getD_some,zaj,opsF,opsX,zag,zaA,dstL,zak,List.append_eq,List.cons_append,List.nil_append,seval] at c;exact nd c <| @zFc)
theorem c135:type_of% x135.down:=x135.down
noncomputable def N110:=zaz Tryz.f110
noncomputable def x110:=PLift.up (by have c:=zah N110 Tryz.f110;simp only [zan,Tryz.f110,Option.getD_some,zaj,opsF,opsX,zag,zaA,dstL,zak,List.append_eq,List.cons_append,List.nil_append,seval] at c;exact nd c <| @zGL)
theorem c110:type_of% x110.down:=x110.down
noncomputable def N108:=zaz Tryz.f108
noncomputable def x108:=PLift.up (by have c:=zah N108 Tryz.f108;simp only [zan,Tryz.f108,Option.getD_some,zaj,opsF,opsX,zag,zaA,dstL,zak,List.append_eq,List.cons_append,List.nil_append,seval] at c;exact nd c <| nd @ln9 <| @zDK)
theorem c108:type_of% x108.down:=x108.down
noncomputable def N136:=zaz Tryz.f136
noncomputable def x136:=PLift.up (by have c:=zah N136 Tryz.f136;simp only [zan,Tryz.f136,Option.getD_some,zaj,opsF,opsX,zag,zaA,dstL,zak,List.append_eq,List.cons_append,List.nil_append,seval] at c;exact nd c <| @zFE)
theorem c136:type_of% x136.down:=x136.down
noncomputable def N111:=zaz Tryz.f111
noncomputable def x111:=PLift.up (by have c:=zah N111 Tryz.f111;simp only [zan,Tryz.f111,Option.getD_some,zaj,opsF,opsX,zag,zaA,dstL,zak,List.append_eq,List.cons_append,List.nil_append,seval] at c;exact nd c <| @zDh)
theorem c111:type_of% x111.down:=x111.down
noncomputable def N79:=zaz Tryz.f79
noncomputable def x79:=PLift.up (by have c:=zah N79 Tryz.f79;simp only [zan,Tryz.f79,Option.getD_some,zaj,opsF,opsX,zag,zaA,dstL,zak,List.append_eq,List.cons_append,List.nil_append,seval] at c;exact nd c <| @fi79)
theorem c79:type_of% x79.down:=x79.down
noncomputable def N80:=zaz Tryz.f80
noncomputable def x80:=PLift.up (by have c:=zah N80 Tryz.f80;simp only [zan,Tryz.f80,Option.getD_some,zaj,opsF,opsX,zag,zaA,dstL,zak,List.append_eq,List.cons_append,List.nil_append,seval] at c;exact nd c <| @fi80)
theorem c80:type_of% x80.down:=x80.down
noncomputable def N151:=zaz Tryz.f151
noncomputable def x151:=PLift.up (by have c:=zah N151 Tryz.f151;simp only [zan,Tryz.f151,Option.getD_some,zaj,opsF,opsX,zag,zaA,dstL,zak,List.append_eq,List.cons_append,List.nil_append,seval] at c;exact nd c <| @zGC)
theorem c151:type_of% x151.down:=x151.down
noncomputable def N163:=zaz Tryz.f163
noncomputable def x163:=PLift.up (by have c:=zah N163 Tryz.f163;simp only [zan,Tryz.f163,Option.getD_some,zaj,opsF,opsX,zag,zaA,dstL,zak,List.append_eq,List.cons_append,List.nil_append,seval] at c;exact nd c <| @zFz)
theorem c163:type_of% x163.down:=x163.down
noncomputable def N150:=zaz Tryz.f150
noncomputable def x150:=PLift.up (by have c:=zah N150 Tryz.f150;simp only [zan,Tryz.f150,Option.getD_some,zaj,opsF,opsX,zag,zaA,dstL,zak,List.append_eq,List.cons_append,List.nil_append,seval] at c;exact nd c <| @zD9)
theorem c150:type_of% x150.down:=x150.down
noncomputable def N162:=zaz Tryz.f162
noncomputable def x162:=PLift.up (by have c:=zah N162 Tryz.f162;simp only [zan,Tryz.f162,Option.getD_some,zaj,opsF,opsX,zag,zaA,dstL,zak,List.append_eq,List.cons_append,List.nil_append,seval] at c;exact nd c <| @zFS)
theorem c162:type_of% x162.down:=x162.down
noncomputable def N112:=zaz Tryz.f112
noncomputable def x112:=PLift.up (by have c:=zah N112 Tryz.f112;simp only [zan,Tryz.f112,Option.getD_some,zaj,opsF,opsX,zag,zaA,dstL,zak,List.append_eq,List.cons_append,List.nil_append,seval] at c;exact nd c <| @zGq)
theorem c112:type_of% x112.down:=x112.down
noncomputable def N137:=zaz Tryz.f137
noncomputable def x137:=PLift.up (by have c:=zah N137 Tryz.f137;simp only [zan,Tryz.f137,Option.getD_some,zaj,opsF,opsX,zag,zaA,dstL,zak,List.append_eq,List.cons_append,List.nil_append,seval] at c;exact nd c <| nd @ix23 <| nd @ld9 <| nd @ln23 <| @zGp)
theorem c137:type_of% x137.down:=x137.down
noncomputable def N140:=zaz Tryz.f140
noncomputable def x140:=PLift.up (by have c:=zah N140 Tryz.f140;simp only [zan,Tryz.f140,Option.getD_some,zaj,opsF,opsX,zag,zaA,dstL,zak,List.append_eq,List.cons_append,List.nil_append,seval] at c;exact nd c <| nd @zpu <| nd @zpn <| nd @ld4 <| nd @ld9 <| @zGP)
theorem c140:type_of% x140.down:=x140.down
noncomputable def N120:=zaz Tryz.f120
noncomputable def x120:=PLift.up (by have c:=zah N120 Tryz.f120;simp only [zan,Tryz.f120,Option.getD_some,zaj,opsF,opsX,zag,zaA,dstL,zak,List.append_eq,List.cons_append,List.nil_append,seval] at c;exact nd c <| nd @al39 <| nd @zgz <| nd @zpL <| nd @zth <| nd @zpg <| nd @zvY <| nd @ld3 <| nd @ld39 <| nd @ld42 <| nd @ld9 <| nd @zx1 <| @zEk)
theorem c120:type_of% x120.down:=x120.down
noncomputable def N139:=zaz Tryz.f139
noncomputable def x139:=PLift.up (by have c:=zah N139 Tryz.f139;simp only [zan,Tryz.f139,Option.getD_some,zaj,opsF,opsX,zag,zaA,dstL,zak,List.append_eq,List.cons_append,List.nil_append,seval] at c;exact nd c <| nd @ld39 <| @zFC)
theorem c139:type_of% x139.down:=x139.down
noncomputable def N115:=zaz Tryz.f115
noncomputable def x115:=PLift.up (by have c:=zah N115 Tryz.f115;simp only [zan,Tryz.f115,Option.getD_some,zaj,opsF,opsX,zag,zaA,dstL,zak,List.append_eq,List.cons_append,List.nil_append,seval] at c;exact nd c <| nd @ld42 <| @zEz)
theorem c115:type_of% x115.down:=x115.down
noncomputable def N98:=zaz Tryz.f98
noncomputable def x98:=PLift.up (by have c:=zah N98 Tryz.f98;simp only [zan,Tryz.f98,Option.getD_some,zaj,opsF,opsX,zag,zaA,dstL,zak,List.append_eq,List.cons_append,List.nil_append,seval] at c;exact nd c <| nd @al39 <| nd @bs23 <| nd @zpu <| nd @zpn <| nd @zvY <| nd @ld39 <| nd @ld4 <| nd @ld42 <| nd @ld9 <| nd @zx1 <| @fi98)
theorem c98:type_of% x98.down:=x98.down
end Go.Proofs.YtdplfgoifjjniaaGreatDoor
