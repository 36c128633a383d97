/- The code of some functions, node by node, for simp. Written by a program (mkcode.py). No condition. -/
import Derived.Test.YtompindebndddaaG19
import Derived.Test.YtompindebndddaaG14
import Derived.KernelRfl
namespace Go.Proofs.Ytompindebndddaa
open Go.Am
set_option linter.unusedVariables false
set_option linter.unusedSimpArgs false
set_option maxRecDepth 100000
set_option maxHeartbeats 0
noncomputable def N47 := nodeF Try.f47
noncomputable def x47 := PLift.up (by have c := factsOf N47 Try.f47; simp only [codeOf, Try.f47, Option.getD_some, factsF, opsF, opsX, ncount, wantG, dstL, quietS, seval] at c; exact nd c <| nd @al39 <| nd @bs23 <| nd @fa41_2 <| nd @ix23 <| nd @ix24 <| nd @ld23 <| nd @ld39 <| nd @ln23 <| @fi47)
theorem c47 : type_of% x47.down := x47.down
noncomputable def N8 := nodeF Try.f8
noncomputable def x8 := PLift.up (by have c := factsOf N8 Try.f8; simp only [codeOf, Try.f8, Option.getD_some, factsF, opsF, opsX, ncount, wantG, dstL, quietS, seval] at c; exact nd c <| nd @bs23 <| nd @bs81 <| nd @fa41_2 <| nd @ix23 <| nd @ix24 <| nd @ld23 <| nd @ld39 <| nd @ln23 <| @fi8)
theorem c8 : type_of% x8.down := x8.down
end Go.Proofs.Ytompindebndddaa
