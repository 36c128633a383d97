/- The code of some functions, node by node, for simp. Written by a program (mkcode.py). No condition. -/
import Derived.Test.YtompindebndddaaG19
import Derived.Test.YtompindebndddaaG14
import Derived.KernelRfl
namespace Go.Proofs.Ytompindebndddaa
open Go.Am
set_option linter.unusedVariables false
set_option linter.unusedSimpArgs false
set_option maxRecDepth 100000
set_option maxHeartbeats 0
noncomputable def N143 := nodeF Try.f143
noncomputable def x143 := PLift.up (by have c := factsOf N143 Try.f143; simp only [codeOf, Try.f143, Option.getD_some, factsF, opsF, opsX, ncount, wantG, dstL, quietS, List.append_eq, List.cons_append, List.nil_append, seval] at c; exact nd c <| @fi143)
theorem c143 : type_of% x143.down := x143.down
noncomputable def N176 := nodeF Try.f176
noncomputable def x176 := PLift.up (by have c := factsOf N176 Try.f176; simp only [codeOf, Try.f176, Option.getD_some, factsF, opsF, opsX, ncount, wantG, dstL, quietS, List.append_eq, List.cons_append, List.nil_append, seval] at c; exact nd c <| @fi176)
theorem c176 : type_of% x176.down := x176.down
noncomputable def N177 := nodeF Try.f177
noncomputable def x177 := PLift.up (by have c := factsOf N177 Try.f177; simp only [codeOf, Try.f177, Option.getD_some, factsF, opsF, opsX, ncount, wantG, dstL, quietS, List.append_eq, List.cons_append, List.nil_append, seval] at c; exact nd c <| @fi177)
theorem c177 : type_of% x177.down := x177.down
noncomputable def N174 := nodeF Try.f174
noncomputable def x174 := PLift.up (by have c := factsOf N174 Try.f174; simp only [codeOf, Try.f174, Option.getD_some, factsF, opsF, opsX, ncount, wantG, dstL, quietS, List.append_eq, List.cons_append, List.nil_append, seval] at c; exact nd c <| nd @ln9 <| @fi174)
theorem c174 : type_of% x174.down := x174.down
noncomputable def N144 := nodeF Try.f144
noncomputable def x144 := PLift.up (by have c := factsOf N144 Try.f144; simp only [codeOf, Try.f144, Option.getD_some, factsF, opsF, opsX, ncount, wantG, dstL, quietS, List.append_eq, List.cons_append, List.nil_append, seval] at c; exact nd c <| nd @ln9 <| @fi144)
theorem c144 : type_of% x144.down := x144.down
noncomputable def N175 := nodeF Try.f175
noncomputable def x175 := PLift.up (by have c := factsOf N175 Try.f175; simp only [codeOf, Try.f175, Option.getD_some, factsF, opsF, opsX, ncount, wantG, dstL, quietS, List.append_eq, List.cons_append, List.nil_append, seval] at c; exact nd c <| nd @ix60 <| nd @ld9 <| nd @ln60 <| @fi175)
theorem c175 : type_of% x175.down := x175.down
noncomputable def N210 := nodeF Try.f210
noncomputable def x210 := PLift.up (by have c := factsOf N210 Try.f210; simp only [codeOf, Try.f210, Option.getD_some, factsF, opsF, opsX, ncount, wantG, dstL, quietS, List.append_eq, List.cons_append, List.nil_append, seval] at c; exact nd c <| nd @bs60 <| @fi210)
theorem c210 : type_of% x210.down := x210.down
noncomputable def N142 := nodeF Try.f142
noncomputable def x142 := PLift.up (by have c := factsOf N142 Try.f142; simp only [codeOf, Try.f142, Option.getD_some, factsF, opsF, opsX, ncount, wantG, dstL, quietS, List.append_eq, List.cons_append, List.nil_append, seval] at c; exact nd c <| @fi142)
theorem c142 : type_of% x142.down := x142.down
noncomputable def N86 := nodeF Try.f86
noncomputable def x86 := PLift.up (by have c := factsOf N86 Try.f86; simp only [codeOf, Try.f86, Option.getD_some, factsF, opsF, opsX, ncount, wantG, dstL, quietS, List.append_eq, List.cons_append, List.nil_append, seval] at c; exact nd c <| @fi86)
theorem c86 : type_of% x86.down := x86.down
noncomputable def N87 := nodeF Try.f87
noncomputable def x87 := PLift.up (by have c := factsOf N87 Try.f87; simp only [codeOf, Try.f87, Option.getD_some, factsF, opsF, opsX, ncount, wantG, dstL, quietS, List.append_eq, List.cons_append, List.nil_append, seval] at c; exact nd c <| @fi87)
theorem c87 : type_of% x87.down := x87.down
noncomputable def N88 := nodeF Try.f88
noncomputable def x88 := PLift.up (by have c := factsOf N88 Try.f88; simp only [codeOf, Try.f88, Option.getD_some, factsF, opsF, opsX, ncount, wantG, dstL, quietS, List.append_eq, List.cons_append, List.nil_append, seval] at c; exact nd c <| nd @fa36_0 <| nd @fa36_1 <| nd @ld4 <| nd @ld9 <| @fi88)
theorem c88 : type_of% x88.down := x88.down
noncomputable def N29 := nodeF Try.f29
noncomputable def x29 := PLift.up (by have c := factsOf N29 Try.f29; simp only [codeOf, Try.f29, Option.getD_some, factsF, opsF, opsX, ncount, wantG, dstL, quietS, List.append_eq, List.cons_append, List.nil_append, seval] at c; exact nd c <| nd @fa39_0 <| nd @fa39_1 <| nd @fa39_2 <| nd @fa39_3 <| nd @ix37 <| nd @ld3 <| nd @ld36 <| nd @ld9 <| @fi29)
theorem c29 : type_of% x29.down := x29.down
end Go.Proofs.Ytompindebndddaa
