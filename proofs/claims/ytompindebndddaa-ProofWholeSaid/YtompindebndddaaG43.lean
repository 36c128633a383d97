/- Walks: what is gone through, on; lists of one's own. Written out by fill2.py. No condition. -/
import Derived.Test.YtompindebndddaaG42
import Derived.Test.YtompindebndddaaGInt
namespace Go.Proofs.Ytompindebndddaa
open Go.Am
set_option linter.unusedSimpArgs false
set_option linter.unusedVariables false
set_option maxRecDepth 100000
set_option maxHeartbeats 0
theorem light_one {a : AtomD} (h : a.light = true) : ∀ x ∈ [a], x.light = true := by simpa using h
end Go.Proofs.Ytompindebndddaa
