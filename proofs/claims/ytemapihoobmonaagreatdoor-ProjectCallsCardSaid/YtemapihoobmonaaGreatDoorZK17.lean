/- The code of some functions, node by node, for simp. Written by a program (mkcode.py). No condition. -/
import Derived.Test.YtemapihoobmonaaGreatDoorG21
import Derived.Test.YtemapihoobmonaaGreatDoorG25
import Derived.KernelRfl
namespace Go.Proofs.YtemapihoobmonaaGreatDoor
open Go.Am
set_option linter.unusedVariables false
set_option linter.unusedSimpArgs false
set_option maxRecDepth 100000
set_option maxHeartbeats 0
noncomputable def N153:=zaA Tryz.f153
noncomputable def x153:=PLift.up (by have c:=zai N153 Tryz.f153; simp only [zao,Tryz.f153,Option.getD_some,zam,opsF,opsX,zaf,zax,dstL,zal,List.append_eq,List.cons_append,List.nil_append,seval] at c; exact nd c <| nd @zwG <| nd @zxe <| nd @zCY <| @zA4)
theorem c153:type_of% x153.down:=x153.down
noncomputable def N213:=zaA Tryz.f213
noncomputable def x213:=PLift.up (by have c:=zai N213 Tryz.f213; simp only [zao,Tryz.f213,Option.getD_some,zam,opsF,opsX,zaf,zax,dstL,zal,List.append_eq,List.cons_append,List.nil_append,seval] at c; exact nd c <| nd @zwG <| nd @zxe <| nd @zCU <| @zCp)
theorem c213:type_of% x213.down:=x213.down
noncomputable def N180:=zaA Tryz.f180
noncomputable def x180:=PLift.up (by have c:=zai N180 Tryz.f180; simp only [zao,Tryz.f180,Option.getD_some,zam,opsF,opsX,zaf,zax,dstL,zal,List.append_eq,List.cons_append,List.nil_append,seval] at c; exact nd c <| nd @zCl <| @zB9)
theorem c180:type_of% x180.down:=x180.down
noncomputable def N154:=zaA Tryz.f154
noncomputable def x154:=PLift.up (by have c:=zai N154 Tryz.f154; simp only [zao,Tryz.f154,Option.getD_some,zam,opsF,opsX,zaf,zax,dstL,zal,List.append_eq,List.cons_append,List.nil_append,seval] at c; exact nd c <| nd @zwG <| nd @zxe <| nd @zCw <| @zCi)
theorem c154:type_of% x154.down:=x154.down
noncomputable def N119:=zaA Tryz.f119
noncomputable def x119:=PLift.up (by have c:=zai N119 Tryz.f119; simp only [zao,Tryz.f119,Option.getD_some,zam,opsF,opsX,zaf,zax,dstL,zal,List.append_eq,List.cons_append,List.nil_append,seval] at c; exact nd c <| nd @zCP <| @zC5)
theorem c119:type_of% x119.down:=x119.down
noncomputable def N84:=zaA Tryz.f84
noncomputable def x84:=PLift.up (by have c:=zai N84 Tryz.f84; simp only [zao,Tryz.f84,Option.getD_some,zam,opsF,opsX,zaf,zax,dstL,zal,List.append_eq,List.cons_append,List.nil_append,seval] at c; exact nd c <| nd @zBj <| nd @fi84 <| @fj84)
theorem c84:type_of% x84.down:=x84.down
noncomputable def N85:=zaA Tryz.f85
noncomputable def x85:=PLift.up (by have c:=zai N85 Tryz.f85; simp only [zao,Tryz.f85,Option.getD_some,zam,opsF,opsX,zaf,zax,dstL,zal,List.append_eq,List.cons_append,List.nil_append,seval] at c; exact nd c <| nd @zvY <| nd @ld3 <| @fi85)
theorem c85:type_of% x85.down:=x85.down
noncomputable def N83:=zaA Tryz.f83
noncomputable def x83:=PLift.up (by have c:=zai N83 Tryz.f83; simp only [zao,Tryz.f83,Option.getD_some,zam,opsF,opsX,zaf,zax,dstL,zal,List.append_eq,List.cons_append,List.nil_append,seval] at c; exact nd c <| @fi83)
theorem c83:type_of% x83.down:=x83.down
noncomputable def N38:=zaA Tryz.f38
noncomputable def x38:=PLift.up (by have c:=zai N38 Tryz.f38; simp only [zao,Tryz.f38,Option.getD_some,zam,opsF,opsX,zaf,zax,dstL,zal,List.append_eq,List.cons_append,List.nil_append,seval] at c; exact nd c <| nd @zB0 <| nd @al62 <| nd @zCL <| nd @bs69 <| nd @zvY <| nd @zzR <| nd @zwG <| nd @ix30 <| nd @ix69 <| nd @zxe <| nd @ld3 <| nd @ld55 <| nd @ld62 <| nd @zBj <| nd @ln30 <| nd @ln69 <| @fi38)
theorem c38:type_of% x38.down:=x38.down
noncomputable def N39:=zaA Tryz.f39
noncomputable def x39:=PLift.up (by have c:=zai N39 Tryz.f39; simp only [zao,Tryz.f39,Option.getD_some,zam,opsF,opsX,zaf,zax,dstL,zal,List.append_eq,List.cons_append,List.nil_append,seval] at c; exact nd c <| @fi39)
theorem c39:type_of% x39.down:=x39.down
noncomputable def N86:=zaA Tryz.f86
noncomputable def x86:=PLift.up (by have c:=zai N86 Tryz.f86; simp only [zao,Tryz.f86,Option.getD_some,zam,opsF,opsX,zaf,zax,dstL,zal,List.append_eq,List.cons_append,List.nil_append,seval] at c; exact nd c <| nd @ld55 <| nd @ld62 <| nd @ld9 <| @fi86)
theorem c86:type_of% x86.down:=x86.down
noncomputable def N40:=zaA Tryz.f40
noncomputable def x40:=PLift.up (by have c:=zai N40 Tryz.f40; simp only [zao,Tryz.f40,Option.getD_some,zam,opsF,opsX,zaf,zax,dstL,zal,List.append_eq,List.cons_append,List.nil_append,seval] at c; exact nd c <| nd @ld55 <| @fi40)
theorem c40:type_of% x40.down:=x40.down
noncomputable def N87:=zaA Tryz.f87
noncomputable def x87:=PLift.up (by have c:=zai N87 Tryz.f87; simp only [zao,Tryz.f87,Option.getD_some,zam,opsF,opsX,zaf,zax,dstL,zal,List.append_eq,List.cons_append,List.nil_append,seval] at c; exact nd c <| nd @ix69 <| nd @ld62 <| nd @ln69 <| @fi87)
theorem c87:type_of% x87.down:=x87.down
noncomputable def N8:=zaA Tryz.f8
noncomputable def x8:=PLift.up (by have c:=zai N8 Tryz.f8; simp only [zao,Tryz.f8,Option.getD_some,zam,opsF,opsX,zaf,zax,dstL,zal,List.append_eq,List.cons_append,List.nil_append,seval] at c; exact nd c <| nd @ix69 <| nd @ld55 <| nd @ld62 <| nd @ln30 <| nd @ln69 <| @fi8)
end Go.Proofs.YtemapihoobmonaaGreatDoor
