/- The law DecideNames, run by the fast machine. No condition. -/
import Derived.Test.YtnehmgadngajmaaGreatDoorGGlob
import Derived.Test.YtnehmgadngajmaaGreatDoorZOv
namespace Go.Proofs.YtnehmgadngajmaaGreatDoor
open Go.Am
theorem decideNames_run : fcall Tryz.prog tab ov 100000 200 (.func 3) [] (spaceHeap 1) (isTrueLow 2) = true := by kernel_rfl
end Go.Proofs.YtnehmgadngajmaaGreatDoor
