/- The code of some functions, node by node, for simp. Written by a program (mkcode.py). No condition. -/
import Derived.Test.YtompindebndddaaG26
import Derived.Test.YtompindebndddaaG22
import Derived.KernelRfl
namespace Go.Proofs.Ytompindebndddaa
open Go.Am
set_option linter.unusedVariables false
set_option linter.unusedSimpArgs false
set_option maxRecDepth 100000
set_option maxHeartbeats 0
noncomputable def N165 := nodeF Try.f165
noncomputable def x165 := PLift.up (by have c := factsOf N165 Try.f165; simp only [codeOf, Try.f165, Option.getD_some, factsF, opsF, opsX, ncount, wantG, dstL, quietS, List.append_eq, List.cons_append, List.nil_append, seval] at c; exact nd c <| nd @fa39_2 <| nd @ld3 <| @fi165)
theorem c165 : type_of% x165.down := x165.down
noncomputable def N20 := nodeF Try.f20
noncomputable def x20 := PLift.up (by have c := factsOf N20 Try.f20; simp only [codeOf, Try.f20, Option.getD_some, factsF, opsF, opsX, ncount, wantG, dstL, quietS, List.append_eq, List.cons_append, List.nil_append, seval] at c; exact nd c <| nd @ix23 <| nd @ld39 <| nd @ln23 <| @fi20)
noncomputable def N9 := nodeF Try.f9
noncomputable def x9 := PLift.up (by have c := factsOf N9 Try.f9; simp only [codeOf, Try.f9, Option.getD_some, factsF, opsF, opsX, ncount, wantG, dstL, quietS, List.append_eq, List.cons_append, List.nil_append, seval] at c; exact nd c <| nd @bs81 <| nd @ix23 <| nd @ld39 <| nd @ln23 <| @fi9)
end Go.Proofs.Ytompindebndddaa
