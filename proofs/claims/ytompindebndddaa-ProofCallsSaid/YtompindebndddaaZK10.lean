/- The code of some functions, node by node, for simp. Written by a program (mkcode.py). No condition. -/
import Derived.Test.YtompindebndddaaG30
import Derived.Test.YtompindebndddaaG27
import Derived.KernelRfl
namespace Go.Proofs.Ytompindebndddaa
open Go.Am
set_option linter.unusedVariables false
set_option linter.unusedSimpArgs false
set_option maxRecDepth 100000
set_option maxHeartbeats 0
noncomputable def N118 := nodeF Try.f118
noncomputable def x118 := PLift.up (by have c := factsOf N118 Try.f118; simp only [codeOf, Try.f118, Option.getD_some, factsF, opsF, opsX, ncount, wantG, dstL, quietS, List.append_eq, List.cons_append, List.nil_append, seval] at c; exact nd c <| nd @al39 <| nd @al41 <| nd @fa41_0 <| nd @fa41_2 <| nd @ix23 <| nd @ix24 <| nd @ld23 <| nd @ld39 <| nd @ld41 <| nd @ln23 <| nd @ln24 <| @fi118)
theorem c118 : type_of% x118.down := x118.down
noncomputable def N119 := nodeF Try.f119
noncomputable def x119 := PLift.up (by have c := factsOf N119 Try.f119; simp only [codeOf, Try.f119, Option.getD_some, factsF, opsF, opsX, ncount, wantG, dstL, quietS, List.append_eq, List.cons_append, List.nil_append, seval] at c; exact nd c <| @fi119)
theorem c119 : type_of% x119.down := x119.down
noncomputable def N159 := nodeF Try.f159
noncomputable def x159 := PLift.up (by have c := factsOf N159 Try.f159; simp only [codeOf, Try.f159, Option.getD_some, factsF, opsF, opsX, ncount, wantG, dstL, quietS, List.append_eq, List.cons_append, List.nil_append, seval] at c; exact nd c <| nd @ix24 <| nd @ld24 <| nd @ld41 <| nd @ln24 <| nd @fi159 <| @fj159)
theorem c159 : type_of% x159.down := x159.down
noncomputable def N56 := nodeF Try.f56
noncomputable def x56 := PLift.up (by have c := factsOf N56 Try.f56; simp only [codeOf, Try.f56, Option.getD_some, factsF, opsF, opsX, ncount, wantG, dstL, quietS, List.append_eq, List.cons_append, List.nil_append, seval] at c; exact nd c <| nd @al143 <| nd @al23 <| nd @al39 <| nd @al41 <| nd @al90 <| nd @bs32 <| nd @bs84 <| nd @fa41_0 <| nd @fa41_1 <| nd @fa41_2 <| nd @fa90_2 <| nd @ix143 <| nd @ix23 <| nd @ix24 <| nd @ld143 <| nd @ld23 <| nd @ld3 <| nd @ld32 <| nd @ld39 <| nd @ld4 <| nd @ld41 <| nd @ld90 <| nd @ln23 <| nd @ln24 <| nd @ln84 <| @fi56)
theorem c56 : type_of% x56.down := x56.down
noncomputable def N58 := nodeF Try.f58
noncomputable def x58 := PLift.up (by have c := factsOf N58 Try.f58; simp only [codeOf, Try.f58, Option.getD_some, factsF, opsF, opsX, ncount, wantG, dstL, quietS, List.append_eq, List.cons_append, List.nil_append, seval] at c; exact nd c <| nd @al3 <| nd @al90 <| nd @fa90_0 <| nd @ld39 <| nd @fi58 <| @ld3)
theorem c58 : type_of% x58.down := x58.down
noncomputable def N123 := nodeF Try.f123
noncomputable def x123 := PLift.up (by have c := factsOf N123 Try.f123; simp only [codeOf, Try.f123, Option.getD_some, factsF, opsF, opsX, ncount, wantG, dstL, quietS, List.append_eq, List.cons_append, List.nil_append, seval] at c; exact nd c <| @fi123)
theorem c123 : type_of% x123.down := x123.down
noncomputable def N160 := nodeF Try.f160
noncomputable def x160 := PLift.up (by have c := factsOf N160 Try.f160; simp only [codeOf, Try.f160, Option.getD_some, factsF, opsF, opsX, ncount, wantG, dstL, quietS, List.append_eq, List.cons_append, List.nil_append, seval] at c; exact nd c <| nd @ix84 <| nd @ld84 <| nd @ld90 <| nd @ln84 <| nd @fi160 <| @fj160)
theorem c160 : type_of% x160.down := x160.down
noncomputable def N57 := nodeF Try.f57
noncomputable def x57 := PLift.up (by have c := factsOf N57 Try.f57; simp only [codeOf, Try.f57, Option.getD_some, factsF, opsF, opsX, ncount, wantG, dstL, quietS, List.append_eq, List.cons_append, List.nil_append, seval] at c; exact nd c <| @fi57)
theorem c57 : type_of% x57.down := x57.down
noncomputable def N121 := nodeF Try.f121
noncomputable def x121 := PLift.up (by have c := factsOf N121 Try.f121; simp only [codeOf, Try.f121, Option.getD_some, factsF, opsF, opsX, ncount, wantG, dstL, quietS, List.append_eq, List.cons_append, List.nil_append, seval] at c; exact nd c <| nd @fa90_0 <| nd @fa90_1 <| nd @fa90_2 <| nd @ld3 <| nd @ld32 <| nd @ld39 <| @fi121)
theorem c121 : type_of% x121.down := x121.down
noncomputable def N120 := nodeF Try.f120
noncomputable def x120 := PLift.up (by have c := factsOf N120 Try.f120; simp only [codeOf, Try.f120, Option.getD_some, factsF, opsF, opsX, ncount, wantG, dstL, quietS, List.append_eq, List.cons_append, List.nil_append, seval] at c; exact nd c <| nd @al90 <| nd @ix84 <| nd @ld90 <| nd @ln84 <| @fi120)
theorem c120 : type_of% x120.down := x120.down
noncomputable def N122 := nodeF Try.f122
noncomputable def x122 := PLift.up (by have c := factsOf N122 Try.f122; simp only [codeOf, Try.f122, Option.getD_some, factsF, opsF, opsX, ncount, wantG, dstL, quietS, List.append_eq, List.cons_append, List.nil_append, seval] at c; exact nd c <| nd @ix32 <| nd @ld3 <| nd @ln32 <| @fi122)
theorem c122 : type_of% x122.down := x122.down
noncomputable def N59 := nodeF Try.f59
noncomputable def x59 := PLift.up (by have c := factsOf N59 Try.f59; simp only [codeOf, Try.f59, Option.getD_some, factsF, opsF, opsX, ncount, wantG, dstL, quietS, List.append_eq, List.cons_append, List.nil_append, seval] at c; exact nd c <| nd @fa41_0 <| nd @ix24 <| nd @ld39 <| nd @ln24 <| @fi59)
theorem c59 : type_of% x59.down := x59.down
noncomputable def N10 := nodeF Try.f10
noncomputable def x10 := PLift.up (by have c := factsOf N10 Try.f10; simp only [codeOf, Try.f10, Option.getD_some, factsF, opsF, opsX, ncount, wantG, dstL, quietS, List.append_eq, List.cons_append, List.nil_append, seval] at c; exact nd c <| nd @bs23 <| nd @fa41_1 <| nd @fa41_2 <| nd @fa90_0 <| nd @fa90_1 <| nd @fa90_2 <| nd @ix23 <| nd @ix24 <| nd @ix32 <| nd @ix84 <| nd @ld23 <| nd @ld3 <| nd @ld32 <| nd @ld39 <| nd @ln23 <| nd @ln32 <| nd @ln84 <| @fi10)
end Go.Proofs.Ytompindebndddaa
