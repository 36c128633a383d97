/- The code of some functions, node by node, for simp. Written by a program (mkcode.py). No condition. -/
import Derived.Test.YtompindebndddaaG19
import Derived.Test.YtompindebndddaaG14
import Derived.KernelRfl
namespace Go.Proofs.Ytompindebndddaa
open Go.Am
set_option linter.unusedVariables false
set_option linter.unusedSimpArgs false
set_option maxRecDepth 100000
set_option maxHeartbeats 0
noncomputable def N5 := nodeF Try.f5
noncomputable def x5 := PLift.up (by have c := factsOf N5 Try.f5; simp only [codeOf, Try.f5, Option.getD_some, factsF, opsF, opsX, ncount, wantG, dstL, quietS, seval] at c; exact nd c <| nd @bs81 <| nd @ix23 <| nd @ld39 <| nd @ln23 <| @fi5)
theorem c5 : type_of% x5.down := x5.down
noncomputable def N7 := nodeF Try.f7
noncomputable def x7 := PLift.up (by have c := factsOf N7 Try.f7; simp only [codeOf, Try.f7, Option.getD_some, factsF, opsF, opsX, ncount, wantG, dstL, quietS, seval] at c; exact nd c <| nd @ix23 <| nd @ld39 <| nd @ln23 <| @fi7)
noncomputable def N44 := nodeF Try.f44
noncomputable def x44 := PLift.up (by have c := factsOf N44 Try.f44; simp only [codeOf, Try.f44, Option.getD_some, factsF, opsF, opsX, ncount, wantG, dstL, quietS, seval] at c; exact nd c <| nd @bs23 <| nd @ld39 <| @fi44)
theorem c44 : type_of% x44.down := x44.down
end Go.Proofs.Ytompindebndddaa
