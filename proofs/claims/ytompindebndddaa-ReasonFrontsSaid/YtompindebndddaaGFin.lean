/- The results of a function, for simp. No condition. -/
import Derived.Test.YtompindebndddaaGSym2
namespace Go.Am
variable {T : Tab} {fn : Func} {K : Value → Heap → Prop} {e : Env} {h : Heap}
theorem fin_no (hr : fn.results = #[]) : finE T fn K .ret e h = K undef h := by
  simp [finE, resultsA, hr, undef]
theorem fin_no2 (hr : fn.results = #[]) : finE T fn K .normal e h = K undef h := by
  simp [finE, resultsA, hr, undef]
theorem fin_three {a b c : Tmp} (hr : fn.results = #[.tmp a, .tmp b, .tmp c]) : finE T fn K .ret e h = K (.tuple #[e.get a, e.get b, e.get c]) h := by
  simp [finE, resultsA, hr, resultA]
theorem fin_celltmp {a b : Tmp} {y : TypeId} (hr : fn.results = #[.cell a y, .tmp b]) : finE T fn K .ret e h = valE (loadA T y (e.get a) h) h (fun x h' => K (.tuple #[x, e.get b]) h') := by
  cases hl : loadA T y (e.get a) h with
  | none => simp [finE, resultsA, hr, resultA, valE, hl]
  | some x => simp [finE, resultsA, hr, resultA, valE, hl]
end Go.Am
