/- The code of some functions, node by node, for simp. Written by a program (mkcode.py). No condition. -/
import Derived.Test.YtompindebndddaaG19
import Derived.Test.YtompindebndddaaG14
import Derived.KernelRfl
namespace Go.Proofs.Ytompindebndddaa
open Go.Am
set_option linter.unusedVariables false
set_option linter.unusedSimpArgs false
set_option maxRecDepth 100000
set_option maxHeartbeats 0
noncomputable def N131 := nodeF Try.f131
noncomputable def x131 := PLift.up (by have c := factsOf N131 Try.f131; simp only [codeOf, Try.f131, Option.getD_some, factsF, opsF, opsX, ncount, wantG, dstL, quietS, List.append_eq, List.cons_append, List.nil_append, seval] at c; exact nd c <| nd @fa36_0 <| nd @fa39_3 <| nd @ix37 <| nd @ld39 <| nd @ld4 <| @fi131)
theorem c131 : type_of% x131.down := x131.down
noncomputable def N180 := nodeF Try.f180
noncomputable def x180 := PLift.up (by have c := factsOf N180 Try.f180; simp only [codeOf, Try.f180, Option.getD_some, factsF, opsF, opsX, ncount, wantG, dstL, quietS, List.append_eq, List.cons_append, List.nil_append, seval] at c; exact nd c <| nd @bs60 <| nd @fa36_0 <| nd @fa36_1 <| nd @fa39_3 <| nd @ix37 <| nd @ld36 <| nd @ld39 <| nd @ld4 <| nd @ld9 <| @fi180)
theorem c180 : type_of% x180.down := x180.down
noncomputable def N150 := nodeF Try.f150
noncomputable def x150 := PLift.up (by have c := factsOf N150 Try.f150; simp only [codeOf, Try.f150, Option.getD_some, factsF, opsF, opsX, ncount, wantG, dstL, quietS, List.append_eq, List.cons_append, List.nil_append, seval] at c; exact nd c <| nd @ld39 <| @fi150)
theorem c150 : type_of% x150.down := x150.down
noncomputable def N130 := nodeF Try.f130
noncomputable def x130 := PLift.up (by have c := factsOf N130 Try.f130; simp only [codeOf, Try.f130, Option.getD_some, factsF, opsF, opsX, ncount, wantG, dstL, quietS, List.append_eq, List.cons_append, List.nil_append, seval] at c; exact nd c <| nd @fa47_0 <| nd @fa47_1 <| nd @ix23 <| nd @ix60 <| nd @ld23 <| nd @ld39 <| nd @ld9 <| nd @ln23 <| nd @ln60 <| @fi130)
theorem c130 : type_of% x130.down := x130.down
noncomputable def N75 := nodeF Try.f75
noncomputable def x75 := PLift.up (by have c := factsOf N75 Try.f75; simp only [codeOf, Try.f75, Option.getD_some, factsF, opsF, opsX, ncount, wantG, dstL, quietS, List.append_eq, List.cons_append, List.nil_append, seval] at c; exact nd c <| nd @fa47_0 <| nd @fa47_1 <| nd @ix23 <| nd @ld23 <| nd @ld39 <| nd @ld47 <| nd @ln23 <| @fi75)
theorem c75 : type_of% x75.down := x75.down
noncomputable def N76 := nodeF Try.f76
noncomputable def x76 := PLift.up (by have c := factsOf N76 Try.f76; simp only [codeOf, Try.f76, Option.getD_some, factsF, opsF, opsX, ncount, wantG, dstL, quietS, List.append_eq, List.cons_append, List.nil_append, seval] at c; exact nd c <| nd @ld39 <| @fi76)
theorem c76 : type_of% x76.down := x76.down
noncomputable def N16 := nodeF Try.f16
noncomputable def x16 := PLift.up (by have c := factsOf N16 Try.f16; simp only [codeOf, Try.f16, Option.getD_some, factsF, opsF, opsX, ncount, wantG, dstL, quietS, List.append_eq, List.cons_append, List.nil_append, seval] at c; exact nd c <| nd @ix22 <| nd @ix23 <| nd @ld39 <| nd @ld47 <| nd @ln22 <| nd @ln23 <| @fi16)
theorem c16 : type_of% x16.down := x16.down
noncomputable def N133 := nodeF Try.f133
noncomputable def x133 := PLift.up (by have c := factsOf N133 Try.f133; simp only [codeOf, Try.f133, Option.getD_some, factsF, opsF, opsX, ncount, wantG, dstL, quietS, List.append_eq, List.cons_append, List.nil_append, seval] at c; exact nd c <| nd @bs23 <| nd @ix23 <| nd @ld39 <| nd @ln23 <| @fi133)
theorem c133 : type_of% x133.down := x133.down
noncomputable def N134 := nodeF Try.f134
noncomputable def x134 := PLift.up (by have c := factsOf N134 Try.f134; simp only [codeOf, Try.f134, Option.getD_some, factsF, opsF, opsX, ncount, wantG, dstL, quietS, List.append_eq, List.cons_append, List.nil_append, seval] at c; exact nd c <| nd @bs23 <| nd @fa47_0 <| nd @fa47_1 <| nd @ix23 <| nd @ld23 <| nd @ld39 <| nd @ld47 <| nd @ln23 <| @fi134)
theorem c134 : type_of% x134.down := x134.down
noncomputable def N79 := nodeF Try.f79
noncomputable def x79 := PLift.up (by have c := factsOf N79 Try.f79; simp only [codeOf, Try.f79, Option.getD_some, factsF, opsF, opsX, ncount, wantG, dstL, quietS, List.append_eq, List.cons_append, List.nil_append, seval] at c; exact nd c <| nd @bs23 <| nd @ix22 <| nd @ld47 <| nd @ln22 <| @fi79)
theorem c79 : type_of% x79.down := x79.down
noncomputable def N18 := nodeF Try.f18
noncomputable def x18 := PLift.up (by have c := factsOf N18 Try.f18; simp only [codeOf, Try.f18, Option.getD_some, factsF, opsF, opsX, ncount, wantG, dstL, quietS, List.append_eq, List.cons_append, List.nil_append, seval] at c; exact nd c <| nd @ln23 <| @fi18)
theorem c18 : type_of% x18.down := x18.down
noncomputable def N201 := nodeF Try.f201
noncomputable def x201 := PLift.up (by have c := factsOf N201 Try.f201; simp only [codeOf, Try.f201, Option.getD_some, factsF, opsF, opsX, ncount, wantG, dstL, quietS, List.append_eq, List.cons_append, List.nil_append, seval] at c; exact nd c <| nd @al36 <| nd @fa192_0 <| nd @fa192_1 <| nd @ix162 <| nd @ld36 <| nd @ld9 <| nd @ln162 <| @fi201)
theorem c201 : type_of% x201.down := x201.down
noncomputable def N199 := nodeF Try.f199
noncomputable def x199 := PLift.up (by have c := factsOf N199 Try.f199; simp only [codeOf, Try.f199, Option.getD_some, factsF, opsF, opsX, ncount, wantG, dstL, quietS, List.append_eq, List.cons_append, List.nil_append, seval] at c; exact nd c <| nd @al36 <| nd @fa192_0 <| nd @fa192_1 <| nd @fa36_0 <| nd @fa36_1 <| nd @ix162 <| nd @ld4 <| nd @ld9 <| nd @ln162 <| @fi199)
theorem c199 : type_of% x199.down := x199.down
noncomputable def N198 := nodeF Try.f198
noncomputable def x198 := PLift.up (by have c := factsOf N198 Try.f198; simp only [codeOf, Try.f198, Option.getD_some, factsF, opsF, opsX, ncount, wantG, dstL, quietS, List.append_eq, List.cons_append, List.nil_append, seval] at c; exact nd c <| nd @al36 <| nd @fa36_0 <| nd @fa36_1 <| nd @ld36 <| nd @ld4 <| nd @ld9 <| @fi198)
theorem c198 : type_of% x198.down := x198.down
noncomputable def N221 := nodeF Try.f221
noncomputable def x221 := PLift.up (by have c := factsOf N221 Try.f221; simp only [codeOf, Try.f221, Option.getD_some, factsF, opsF, opsX, ncount, wantG, dstL, quietS, List.append_eq, List.cons_append, List.nil_append, seval] at c; exact nd c <| nd @bs162 <| nd @fa192_0 <| nd @ix162 <| nd @ld192 <| nd @ld9 <| nd @ln162 <| @fi221)
theorem c221 : type_of% x221.down := x221.down
noncomputable def N202 := nodeF Try.f202
noncomputable def x202 := PLift.up (by have c := factsOf N202 Try.f202; simp only [codeOf, Try.f202, Option.getD_some, factsF, opsF, opsX, ncount, wantG, dstL, quietS, List.append_eq, List.cons_append, List.nil_append, seval] at c; exact nd c <| nd @al36 <| nd @bs162 <| nd @fa192_0 <| nd @fa192_1 <| nd @fa36_0 <| nd @fa36_1 <| nd @ix162 <| nd @ld192 <| nd @ld36 <| nd @ld4 <| nd @ld9 <| nd @ln162 <| @fi202)
theorem c202 : type_of% x202.down := x202.down
noncomputable def N166 := nodeF Try.f166
noncomputable def x166 := PLift.up (by have c := factsOf N166 Try.f166; simp only [codeOf, Try.f166, Option.getD_some, factsF, opsF, opsX, ncount, wantG, dstL, quietS, List.append_eq, List.cons_append, List.nil_append, seval] at c; exact nd c <| nd @al39 <| nd @fa39_3 <| nd @ix37 <| nd @ld36 <| nd @ld39 <| @fi166)
theorem c166 : type_of% x166.down := x166.down
noncomputable def N200 := nodeF Try.f200
noncomputable def x200 := PLift.up (by have c := factsOf N200 Try.f200; simp only [codeOf, Try.f200, Option.getD_some, factsF, opsF, opsX, ncount, wantG, dstL, quietS, List.append_eq, List.cons_append, List.nil_append, seval] at c; exact nd c <| nd @fa39_0 <| nd @fa39_1 <| nd @fa39_2 <| nd @ld3 <| nd @ld9 <| @fi200)
theorem c200 : type_of% x200.down := x200.down
noncomputable def N167 := nodeF Try.f167
noncomputable def x167 := PLift.up (by have c := factsOf N167 Try.f167; simp only [codeOf, Try.f167, Option.getD_some, factsF, opsF, opsX, ncount, wantG, dstL, quietS, List.append_eq, List.cons_append, List.nil_append, seval] at c; exact nd c <| nd @al36 <| nd @bs162 <| nd @fa36_0 <| nd @fa36_1 <| nd @fa39_2 <| nd @fa39_3 <| nd @ix37 <| nd @ld3 <| nd @ld36 <| nd @ld39 <| nd @ld4 <| nd @ld9 <| @fi167)
theorem c167 : type_of% x167.down := x167.down
noncomputable def N3 := nodeF Try.f3
noncomputable def x3 := PLift.up (by have c := factsOf N3 Try.f3; simp only [codeOf, Try.f3, Option.getD_some, factsF, opsF, opsX, ncount, wantG, dstL, quietS, List.append_eq, List.cons_append, List.nil_append, seval] at c; exact nd c <| nd @fa41_0 <| nd @fa41_2 <| nd @ix23 <| nd @ix24 <| nd @ix32 <| nd @ld23 <| nd @ld3 <| nd @ld39 <| nd @ld41 <| nd @ln23 <| nd @ln24 <| nd @ln32 <| @fi3)
theorem c3 : type_of% x3.down := x3.down
end Go.Proofs.Ytompindebndddaa
