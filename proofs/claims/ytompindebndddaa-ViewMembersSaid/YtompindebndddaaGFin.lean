/- The results of a function, for simp. No condition. -/
import Derived.Test.YtompindebndddaaGSym2
namespace Go.Am
variable {T : Tab} {fn : Func} {K : Value → Heap → Prop} {e : Env} {h : Heap}
end Go.Am
