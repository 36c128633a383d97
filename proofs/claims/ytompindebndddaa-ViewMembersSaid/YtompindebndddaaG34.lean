/- The code of some functions, node by node, for simp. Written by a program (mkcode.py). No condition. -/
import Derived.Test.YtompindebndddaaG26
import Derived.Test.YtompindebndddaaG22
import Derived.KernelRfl
import Derived.Test.YtompindebndddaaG29
import Derived.Test.YtompindebndddaaG15
namespace Go.Proofs.Ytompindebndddaa
open Go.Am
set_option linter.unusedSimpArgs false
set_option linter.unusedVariables false
set_option maxRecDepth 100000
set_option maxHeartbeats 0
theorem sty60 : srcTyA tab 60 60 = true := by kernel_rfl
end Go.Proofs.Ytompindebndddaa
