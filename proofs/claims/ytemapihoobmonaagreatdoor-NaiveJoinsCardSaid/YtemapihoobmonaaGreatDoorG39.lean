/- Ranks: their bounds; a row of numbers of one's own. No condition. -/
import Derived.Test.YtemapihoobmonaaGreatDoorG29
import Derived.Test.YtemapihoobmonaaGreatDoorG21
import Derived.Test.YtemapihoobmonaaGreatDoorGJoin
namespace Go.Am
set_option linter.unusedVariables false
set_option linter.unusedSimpArgs false
def ints (l : List Int) : List Value := l.map (Value.int .i64)
end Go.Am
