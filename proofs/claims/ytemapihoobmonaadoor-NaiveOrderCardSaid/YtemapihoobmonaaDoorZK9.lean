/- The code of some functions, node by node, for simp. Written by a program (mkcode.py). No condition. -/
import Derived.Test.YtemapihoobmonaaDoorG18
import Derived.Test.YtemapihoobmonaaDoorG15
import Derived.KernelRfl
namespace Go.Proofs.YtemapihoobmonaaDoor
open Go.Am
set_option linter.unusedVariables false
set_option linter.unusedSimpArgs false
set_option maxRecDepth 100000
set_option maxHeartbeats 0
noncomputable def N3 := nodeF Tryd.f3
noncomputable def x3 := PLift.up (by have c := factsOf N3 Tryd.f3; simp only [codeOf, Tryd.f3, Option.getD_some, factsF, opsF, opsX, ncount, wantG, dstL, quietS, List.append_eq, List.cons_append, List.nil_append, seval] at c; exact nd c <| nd @ln22 <| nd @ln23 <| @fi3)
theorem c3 : type_of% x3.down := x3.down
end Go.Proofs.YtemapihoobmonaaDoor
