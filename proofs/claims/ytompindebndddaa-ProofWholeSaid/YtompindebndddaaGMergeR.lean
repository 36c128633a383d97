/- Sorting by halves, each text once: the first stays. No condition. -/
import Derived.Test.YtompindebndddaaG32
namespace Go.Am
set_option linter.unusedVariables false
set_option linter.unusedSimpArgs false
theorem Inc.over {a h1 h2 : Heap} {l : List Blk} {w : Nat} (i : Inc a h1) (x : Ext (h1.lay l w) h2) : Inc a h2 := (i.trans (Inc.lay _ _ _)).trans x.inc
end Go.Am
