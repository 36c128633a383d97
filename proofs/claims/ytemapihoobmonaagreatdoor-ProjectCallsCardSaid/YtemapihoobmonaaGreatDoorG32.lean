/- Walks: bindings: searching Written out by fill2.py. No condition. -/
import Derived.Test.YtemapihoobmonaaGreatDoorG27
import Derived.Test.YtemapihoobmonaaGreatDoorG14
import Derived.Test.YtemapihoobmonaaGreatDoorG21
import Derived.Test.YtemapihoobmonaaGreatDoorG25
import Derived.KernelRfl
namespace Go.Proofs.YtemapihoobmonaaGreatDoor
open Go.Am
set_option linter.unusedSimpArgs false
set_option linter.unusedVariables false
set_option maxRecDepth 100000
set_option maxHeartbeats 0
theorem zxo (a:TermD):cut a.cells 0 2=some a.cells:=rfl
theorem zwz (a:TermD):Value.agg a.cells.toArray=a.val:=rfl
end Go.Proofs.YtemapihoobmonaaGreatDoor
namespace Go.Proofs.YtemapihoobmonaaGreatDoor
open Go.Am
set_option linter.unusedVariables false
set_option linter.unusedSimpArgs false
set_option maxRecDepth 100000
set_option maxHeartbeats 0
noncomputable def N186:=zaA Tryz.f186
noncomputable def x186:=PLift.up (by have c:=zai N186 Tryz.f186; simp only [zao,Tryz.f186,Option.getD_some,zam,opsF,opsX,zaf,zax,dstL,zal,List.append_eq,List.cons_append,List.nil_append,seval] at c; exact nd c <| @zCW)
theorem c186:type_of% x186.down:=x186.down
noncomputable def N217:=zaA Tryz.f217
noncomputable def x217:=PLift.up (by have c:=zai N217 Tryz.f217; simp only [zao,Tryz.f217,Option.getD_some,zam,opsF,opsX,zaf,zax,dstL,zal,List.append_eq,List.cons_append,List.nil_append,seval] at c; exact nd c <| @zB6)
theorem c217:type_of% x217.down:=x217.down
noncomputable def N215:=zaA Tryz.f215
noncomputable def x215:=PLift.up (by have c:=zai N215 Tryz.f215; simp only [zao,Tryz.f215,Option.getD_some,zam,opsF,opsX,zaf,zax,dstL,zal,List.append_eq,List.cons_append,List.nil_append,seval] at c; exact nd c <| @zBM)
theorem c215:type_of% x215.down:=x215.down
noncomputable def N187:=zaA Tryz.f187
noncomputable def x187:=PLift.up (by have c:=zai N187 Tryz.f187; simp only [zao,Tryz.f187,Option.getD_some,zam,opsF,opsX,zaf,zax,dstL,zal,List.append_eq,List.cons_append,List.nil_append,seval] at c; exact nd c <| @zBI)
theorem c187:type_of% x187.down:=x187.down
noncomputable def N185:=zaA Tryz.f185
noncomputable def x185:=PLift.up (by have c:=zai N185 Tryz.f185; simp only [zao,Tryz.f185,Option.getD_some,zam,opsF,opsX,zaf,zax,dstL,zal,List.append_eq,List.cons_append,List.nil_append,seval] at c; exact nd c <| nd @ln9 <| @zB7)
theorem c185:type_of% x185.down:=x185.down
noncomputable def N216:=zaA Tryz.f216
noncomputable def x216:=PLift.up (by have c:=zai N216 Tryz.f216; simp only [zao,Tryz.f216,Option.getD_some,zam,opsF,opsX,zaf,zax,dstL,zal,List.append_eq,List.cons_append,List.nil_append,seval] at c; exact nd c <| @zCO)
theorem c216:type_of% x216.down:=x216.down
noncomputable def N188:=zaA Tryz.f188
noncomputable def x188:=PLift.up (by have c:=zai N188 Tryz.f188; simp only [zao,Tryz.f188,Option.getD_some,zam,opsF,opsX,zaf,zax,dstL,zal,List.append_eq,List.cons_append,List.nil_append,seval] at c; exact nd c <| @zBN)
theorem c188:type_of% x188.down:=x188.down
noncomputable def N159:=zaA Tryz.f159
noncomputable def x159:=PLift.up (by have c:=zai N159 Tryz.f159; simp only [zao,Tryz.f159,Option.getD_some,zam,opsF,opsX,zaf,zax,dstL,zal,List.append_eq,List.cons_append,List.nil_append,seval] at c; exact nd c <| @zC1)
theorem c159:type_of% x159.down:=x159.down
noncomputable def N160:=zaA Tryz.f160
noncomputable def x160:=PLift.up (by have c:=zai N160 Tryz.f160; simp only [zao,Tryz.f160,Option.getD_some,zam,opsF,opsX,zaf,zax,dstL,zal,List.append_eq,List.cons_append,List.nil_append,seval] at c; exact nd c <| @zCB)
theorem c160:type_of% x160.down:=x160.down
noncomputable def N191:=zaA Tryz.f191
noncomputable def x191:=PLift.up (by have c:=zai N191 Tryz.f191; simp only [zao,Tryz.f191,Option.getD_some,zam,opsF,opsX,zaf,zax,dstL,zal,List.append_eq,List.cons_append,List.nil_append,seval] at c; exact nd c <| @zCo)
theorem c191:type_of% x191.down:=x191.down
noncomputable def N219:=zaA Tryz.f219
noncomputable def x219:=PLift.up (by have c:=zai N219 Tryz.f219; simp only [zao,Tryz.f219,Option.getD_some,zam,opsF,opsX,zaf,zax,dstL,zal,List.append_eq,List.cons_append,List.nil_append,seval] at c; exact nd c <| @zBH)
theorem c219:type_of% x219.down:=x219.down
noncomputable def N190:=zaA Tryz.f190
noncomputable def x190:=PLift.up (by have c:=zai N190 Tryz.f190; simp only [zao,Tryz.f190,Option.getD_some,zam,opsF,opsX,zaf,zax,dstL,zal,List.append_eq,List.cons_append,List.nil_append,seval] at c; exact nd c <| @zCr)
theorem c190:type_of% x190.down:=x190.down
noncomputable def N218:=zaA Tryz.f218
noncomputable def x218:=PLift.up (by have c:=zai N218 Tryz.f218; simp only [zao,Tryz.f218,Option.getD_some,zam,opsF,opsX,zaf,zax,dstL,zal,List.append_eq,List.cons_append,List.nil_append,seval] at c; exact nd c <| @zBY)
theorem c218:type_of% x218.down:=x218.down
noncomputable def N108:=zaA Tryz.f108
noncomputable def x108:=PLift.up (by have c:=zai N108 Tryz.f108; simp only [zao,Tryz.f108,Option.getD_some,zam,opsF,opsX,zaf,zax,dstL,zal,List.append_eq,List.cons_append,List.nil_append,seval] at c; exact nd c <| @zCa)
theorem c108:type_of% x108.down:=x108.down
noncomputable def N140:=zaA Tryz.f140
noncomputable def x140:=PLift.up (by have c:=zai N140 Tryz.f140; simp only [zao,Tryz.f140,Option.getD_some,zam,opsF,opsX,zaf,zax,dstL,zal,List.append_eq,List.cons_append,List.nil_append,seval] at c; exact nd c <| nd @ix49 <| nd @ld9 <| nd @ln49 <| @zCK)
theorem c140:type_of% x140.down:=x140.down
noncomputable def N164:=zaA Tryz.f164
noncomputable def x164:=PLift.up (by have c:=zai N164 Tryz.f164; simp only [zao,Tryz.f164,Option.getD_some,zam,opsF,opsX,zaf,zax,dstL,zal,List.append_eq,List.cons_append,List.nil_append,seval] at c; exact nd c <| nd @zqB <| nd @zou <| nd @ld4 <| nd @ld9 <| @zCh)
theorem c164:type_of% x164.down:=x164.down
noncomputable def N125:=zaA Tryz.f125
noncomputable def x125:=PLift.up (by have c:=zai N125 Tryz.f125; simp only [zao,Tryz.f125,Option.getD_some,zam,opsF,opsX,zaf,zax,dstL,zal,List.append_eq,List.cons_append,List.nil_append,seval] at c; exact nd c <| nd @al23 <| nd @zqJ <| nd @zqY <| nd @zkR <| nd @zhJ <| nd @zBr <| nd @ld23 <| nd @ld26 <| nd @ld3 <| nd @ld9 <| nd @zBi <| @zCx)
theorem c125:type_of% x125.down:=x125.down
noncomputable def N163:=zaA Tryz.f163
noncomputable def x163:=PLift.up (by have c:=zai N163 Tryz.f163; simp only [zao,Tryz.f163,Option.getD_some,zam,opsF,opsX,zaf,zax,dstL,zal,List.append_eq,List.cons_append,List.nil_append,seval] at c; exact nd c <| nd @ld23 <| @zCn)
theorem c163:type_of% x163.down:=x163.down
end Go.Proofs.YtemapihoobmonaaGreatDoor
