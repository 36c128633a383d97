/- The results of a function, for simp. No condition. -/
import Derived.Test.YtompindebndddaaGSym2
namespace Go.Am
variable {T : Tab} {fn : Func} {K : Value → Heap → Prop} {e : Env} {h : Heap}
theorem fin_no (hr : fn.results = #[]) : finE T fn K .ret e h = K undef h := by
  simp [finE, resultsA, hr, undef]
theorem fin_no2 (hr : fn.results = #[]) : finE T fn K .normal e h = K undef h := by
  simp [finE, resultsA, hr, undef]
end Go.Am
