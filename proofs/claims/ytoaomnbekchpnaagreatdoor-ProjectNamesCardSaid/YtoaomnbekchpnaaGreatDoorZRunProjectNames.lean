/- The law ProjectNames, run by the fast machine. No condition. -/
import Derived.Test.YtoaomnbekchpnaaGreatDoorGGlob
import Derived.Test.YtoaomnbekchpnaaGreatDoorZOv
namespace Go.Proofs.YtoaomnbekchpnaaGreatDoor
open Go.Am
theorem projectNames_run : fcall Tryz.prog tab ov 100000 200 (.func 3) [] (spaceHeap 1) (isTrueLow 2) = true := by kernel_rfl
end Go.Proofs.YtoaomnbekchpnaaGreatDoor
