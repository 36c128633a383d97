/- The code of some functions, node by node, for simp. Written by a program (mkcode.py). No condition. -/
import Derived.Test.YtompindebndddaaG19
import Derived.Test.YtompindebndddaaG14
import Derived.KernelRfl
namespace Go.Proofs.Ytompindebndddaa
open Go.Am
set_option linter.unusedVariables false
set_option linter.unusedSimpArgs false
set_option maxRecDepth 100000
set_option maxHeartbeats 0
noncomputable def N136 := nodeF Try.f136
noncomputable def x136 := PLift.up (by have c := factsOf N136 Try.f136; simp only [codeOf, Try.f136, Option.getD_some, factsF, opsF, opsX, ncount, wantG, dstL, quietS, List.append_eq, List.cons_append, List.nil_append, seval] at c; exact nd c <| nd @fa39_2 <| nd @fa39_3 <| nd @ld3 <| @fi136)
theorem c136 : type_of% x136.down := x136.down
noncomputable def N22 := nodeF Try.f22
noncomputable def x22 := PLift.up (by have c := factsOf N22 Try.f22; simp only [codeOf, Try.f22, Option.getD_some, factsF, opsF, opsX, ncount, wantG, dstL, quietS, List.append_eq, List.cons_append, List.nil_append, seval] at c; exact nd c <| @fi22)
theorem c22 : type_of% x22.down := x22.down
noncomputable def N83 := nodeF Try.f83
noncomputable def x83 := PLift.up (by have c := factsOf N83 Try.f83; simp only [codeOf, Try.f83, Option.getD_some, factsF, opsF, opsX, ncount, wantG, dstL, quietS, List.append_eq, List.cons_append, List.nil_append, seval] at c; exact nd c <| nd @ix24 <| nd @ld41 <| nd @ln24 <| @fi83)
theorem c83 : type_of% x83.down := x83.down
noncomputable def N84 := nodeF Try.f84
noncomputable def x84 := PLift.up (by have c := factsOf N84 Try.f84; simp only [codeOf, Try.f84, Option.getD_some, factsF, opsF, opsX, ncount, wantG, dstL, quietS, List.append_eq, List.cons_append, List.nil_append, seval] at c; exact nd c <| nd @fa41_0 <| nd @ld39 <| @fi84)
theorem c84 : type_of% x84.down := x84.down
end Go.Proofs.Ytompindebndddaa
