/- The law OrderCalls, walked. Written out by fill2.py. No condition. -/
import Derived.Test.YtompindebndddaaG45
import Derived.Test.YtompindebndddaaZF4
import Derived.Test.YtompindebndddaaG47
import Derived.Test.YtompindebndddaaG48
import Derived.Test.YtompindebndddaaGLaid
namespace Go.Proofs.Ytompindebndddaa
open Go.Am
set_option linter.unusedSimpArgs false
set_option linter.unusedVariables false
set_option maxRecDepth 100000
set_option maxHeartbeats 0
theorem fork_var (b : Bool) (h : Heap) (K : Value → Heap → Prop) : forkE b h K = K (.bool b) h := by
  unfold forkE
  cases b
  · simp
  · simp
end Go.Proofs.Ytompindebndddaa
