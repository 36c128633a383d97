/- The code of some functions, node by node, for simp. Written by a program (mkcode.py). No condition. -/
import Derived.Test.YtompindebndddaaG19
import Derived.Test.YtompindebndddaaG14
import Derived.KernelRfl
namespace Go.Proofs.Ytompindebndddaa
open Go.Am
set_option linter.unusedVariables false
set_option linter.unusedSimpArgs false
set_option maxRecDepth 100000
set_option maxHeartbeats 0
noncomputable def N80 := nodeF Try.f80
noncomputable def x80 := PLift.up (by have c := factsOf N80 Try.f80; simp only [codeOf, Try.f80, Option.getD_some, factsF, opsF, opsX, ncount, wantG, dstL, quietS, List.append_eq, List.cons_append, List.nil_append, seval] at c; exact nd c <| nd @ld39 <| @fi80)
theorem c80 : type_of% x80.down := x80.down
noncomputable def N135 := nodeF Try.f135
noncomputable def x135 := PLift.up (by have c := factsOf N135 Try.f135; simp only [codeOf, Try.f135, Option.getD_some, factsF, opsF, opsX, ncount, wantG, dstL, quietS, List.append_eq, List.cons_append, List.nil_append, seval] at c; exact nd c <| @fi135)
theorem c135 : type_of% x135.down := x135.down
noncomputable def N168 := nodeF Try.f168
noncomputable def x168 := PLift.up (by have c := factsOf N168 Try.f168; simp only [codeOf, Try.f168, Option.getD_some, factsF, opsF, opsX, ncount, wantG, dstL, quietS, List.append_eq, List.cons_append, List.nil_append, seval] at c; exact nd c <| nd @ix159 <| nd @ld36 <| nd @ln159 <| @fi168)
theorem c168 : type_of% x168.down := x168.down
noncomputable def N137 := nodeF Try.f137
noncomputable def x137 := PLift.up (by have c := factsOf N137 Try.f137; simp only [codeOf, Try.f137, Option.getD_some, factsF, opsF, opsX, ncount, wantG, dstL, quietS, List.append_eq, List.cons_append, List.nil_append, seval] at c; exact nd c <| nd @fa36_0 <| nd @ld4 <| @fi137)
theorem c137 : type_of% x137.down := x137.down
noncomputable def N136 := nodeF Try.f136
noncomputable def x136 := PLift.up (by have c := factsOf N136 Try.f136; simp only [codeOf, Try.f136, Option.getD_some, factsF, opsF, opsX, ncount, wantG, dstL, quietS, List.append_eq, List.cons_append, List.nil_append, seval] at c; exact nd c <| nd @fa39_2 <| nd @fa39_3 <| nd @ld3 <| @fi136)
theorem c136 : type_of% x136.down := x136.down
noncomputable def N81 := nodeF Try.f81
noncomputable def x81 := PLift.up (by have c := factsOf N81 Try.f81; simp only [codeOf, Try.f81, Option.getD_some, factsF, opsF, opsX, ncount, wantG, dstL, quietS, List.append_eq, List.cons_append, List.nil_append, seval] at c; exact nd c <| nd @ld39 <| @fi81)
theorem c81 : type_of% x81.down := x81.down
noncomputable def N138 := nodeF Try.f138
noncomputable def x138 := PLift.up (by have c := factsOf N138 Try.f138; simp only [codeOf, Try.f138, Option.getD_some, factsF, opsF, opsX, ncount, wantG, dstL, quietS, List.append_eq, List.cons_append, List.nil_append, seval] at c; exact nd c <| nd @ix23 <| nd @ld39 <| nd @ln23 <| @fi138)
theorem c138 : type_of% x138.down := x138.down
noncomputable def N22 := nodeF Try.f22
noncomputable def x22 := PLift.up (by have c := factsOf N22 Try.f22; simp only [codeOf, Try.f22, Option.getD_some, factsF, opsF, opsX, ncount, wantG, dstL, quietS, List.append_eq, List.cons_append, List.nil_append, seval] at c; exact nd c <| @fi22)
theorem c22 : type_of% x22.down := x22.down
noncomputable def N83 := nodeF Try.f83
noncomputable def x83 := PLift.up (by have c := factsOf N83 Try.f83; simp only [codeOf, Try.f83, Option.getD_some, factsF, opsF, opsX, ncount, wantG, dstL, quietS, List.append_eq, List.cons_append, List.nil_append, seval] at c; exact nd c <| nd @ix24 <| nd @ld41 <| nd @ln24 <| @fi83)
theorem c83 : type_of% x83.down := x83.down
noncomputable def N84 := nodeF Try.f84
noncomputable def x84 := PLift.up (by have c := factsOf N84 Try.f84; simp only [codeOf, Try.f84, Option.getD_some, factsF, opsF, opsX, ncount, wantG, dstL, quietS, List.append_eq, List.cons_append, List.nil_append, seval] at c; exact nd c <| nd @fa41_0 <| nd @ld39 <| @fi84)
theorem c84 : type_of% x84.down := x84.down
noncomputable def N78 := nodeF Try.f78
noncomputable def x78 := PLift.up (by have c := factsOf N78 Try.f78; simp only [codeOf, Try.f78, Option.getD_some, factsF, opsF, opsX, ncount, wantG, dstL, quietS, List.append_eq, List.cons_append, List.nil_append, seval] at c; exact nd c <| @fi78)
theorem c78 : type_of% x78.down := x78.down
noncomputable def N132 := nodeF Try.f132
noncomputable def x132 := PLift.up (by have c := factsOf N132 Try.f132; simp only [codeOf, Try.f132, Option.getD_some, factsF, opsF, opsX, ncount, wantG, dstL, quietS, List.append_eq, List.cons_append, List.nil_append, seval] at c; exact nd c <| nd @ix23 <| nd @ld39 <| nd @ln23 <| @fi132)
theorem c132 : type_of% x132.down := x132.down
noncomputable def N77 := nodeF Try.f77
noncomputable def x77 := PLift.up (by have c := factsOf N77 Try.f77; simp only [codeOf, Try.f77, Option.getD_some, factsF, opsF, opsX, ncount, wantG, dstL, quietS, List.append_eq, List.cons_append, List.nil_append, seval] at c; exact nd c <| nd @al104 <| nd @ld103 <| nd @ld39 <| @fi77)
theorem c77 : type_of% x77.down := x77.down
end Go.Proofs.Ytompindebndddaa
