/- The code of some functions, node by node, for simp. Written by a program (mkcode.py). No condition. -/
import Derived.Test.YtompindebndddaaG19
import Derived.Test.YtompindebndddaaG14
import Derived.KernelRfl
namespace Go.Proofs.Ytompindebndddaa
open Go.Am
set_option linter.unusedVariables false
set_option maxRecDepth 100000




noncomputable def K136_0 := Try.f136.body.getD .skip
noncomputable def K136_1 := lft K136_0
noncomputable def A136_1 := rops K136_1
noncomputable def K136_2 := rgt K136_0
noncomputable def K136_3 := lft K136_2
noncomputable def A136_3 := rops K136_3
noncomputable def K136_4 := rgt K136_2
theorem body136 : Try.f136.body = some K136_0 := by kernel_rfl
noncomputable def xcode136_0 := PLift.up (nd (seqK K136_0 K136_1 K136_2) <| nd (regK K136_1 A136_1) <| nd (nilK A136_1 2) <| nd (opS A136_1 0 1) <| nd (opS A136_1 1 2) <| nd (seqK K136_2 K136_3 K136_4) <| nd (regK K136_3 A136_3) <| nd (nilK A136_3 7) <| nd (opS A136_3 0 1) <| nd (opS A136_3 1 2) <| nd (opS A136_3 2 3) <| nd (opS A136_3 3 4) <| nd (opS A136_3 4 5) <| nd (opS A136_3 5 6) <| nd (opS A136_3 6 7) <| retK K136_4)
theorem code136_0 : type_of% xcode136_0.down := xcode136_0.down
noncomputable def xty136 := PLift.up (nd @fa39_2 <| nd @fa39_3 <| nd @ld3 <| @fi136)
theorem ty136 : type_of% xty136.down := xty136.down







noncomputable def K132_0 := Try.f132.body.getD .skip
noncomputable def K132_1 := lft K132_0
noncomputable def A132_1 := rops K132_1
noncomputable def K132_2 := rgt K132_0
noncomputable def K132_3 := lft K132_2
noncomputable def K132_4 := lft K132_3
noncomputable def A132_4 := rops K132_4
noncomputable def K132_5 := rgt K132_3
noncomputable def K132_6 := lft K132_5
noncomputable def K132_7 := lft K132_6
noncomputable def K132_8 := lft K132_7
noncomputable def A132_8 := rops K132_8
noncomputable def K132_9 := rgt K132_7
noncomputable def K132_10 := lft K132_9
noncomputable def K132_11 := lft K132_10
noncomputable def K132_12 := rgt K132_10
noncomputable def K132_13 := rgt K132_9
noncomputable def K132_14 := lft K132_13
noncomputable def K132_15 := lft K132_14
noncomputable def K132_16 := lft K132_15
noncomputable def A132_16 := rops K132_16
noncomputable def K132_17 := rgt K132_15
noncomputable def K132_18 := lft K132_17
noncomputable def A132_18 := rops K132_18
noncomputable def K132_19 := rgt K132_17
noncomputable def K132_20 := lft K132_19
noncomputable def K132_21 := lft K132_20
noncomputable def A132_21 := rops K132_21
noncomputable def K132_22 := rgt K132_20
noncomputable def K132_23 := rgt K132_19
noncomputable def K132_24 := rgt K132_13
noncomputable def A132_24 := rops K132_24
noncomputable def K132_25 := rgt K132_2
noncomputable def K132_26 := lft K132_25
noncomputable def A132_26 := rops K132_26
noncomputable def K132_27 := rgt K132_25
theorem body132 : Try.f132.body = some K132_0 := by kernel_rfl
noncomputable def xcode132_0 := PLift.up (nd (seqK K132_0 K132_1 K132_2) <| nd (regK K132_1 A132_1) <| nd (nilK A132_1 1) <| nd (opS A132_1 0 1) <| nd (seqK K132_2 K132_3 K132_25) <| nd (seqK K132_3 K132_4 K132_5) <| nd (regK K132_4 A132_4) <| nd (nilK A132_4 3) <| nd (opS A132_4 0 1) <| nd (opS A132_4 1 2) <| nd (opS A132_4 2 3) <| nd (blkK K132_5 K132_6) <| nd (loopK K132_6 K132_7) <| nd (seqK K132_7 K132_8 K132_9) <| nd (regK K132_8 A132_8) <| nd (nilK A132_8 1) <| nd (opS A132_8 0 1) <| nd (seqK K132_9 K132_10 K132_13) <| nd (condK K132_10 K132_11 K132_12) <| nd (skipK K132_11) <| nd (exitK K132_12) <| nd (seqK K132_13 K132_14 K132_24) <| nd (blkK K132_14 K132_15) <| nd (seqK K132_15 K132_16 K132_17) <| nd (regK K132_16 A132_16) <| nd (nilK A132_16 2) <| nd (opS A132_16 0 1) <| nd (opS A132_16 1 2) <| nd (seqK K132_17 K132_18 K132_19) <| nd (regK K132_18 A132_18) <| nd (nilK A132_18 6) <| nd (opS A132_18 0 1) <| nd (opS A132_18 1 2) <| nd (opS A132_18 2 3) <| nd (opS A132_18 3 4) <| nd (opS A132_18 4 5) <| nd (opS A132_18 5 6) <| nd (condK K132_19 K132_20 K132_23) <| nd (seqK K132_20 K132_21 K132_22) <| regK K132_21 A132_21)
theorem code132_0 : type_of% xcode132_0.down := xcode132_0.down
noncomputable def xcode132_1 := PLift.up (nd (nilK A132_21 2) <| nd (opS A132_21 0 1) <| nd (opS A132_21 1 2) <| nd (retK K132_22) <| nd (skipK K132_23) <| nd (regK K132_24 A132_24) <| nd (nilK A132_24 2) <| nd (opS A132_24 0 1) <| nd (opS A132_24 1 2) <| nd (seqK K132_25 K132_26 K132_27) <| nd (regK K132_26 A132_26) <| nd (nilK A132_26 1) <| nd (opS A132_26 0 1) <| retK K132_27)
theorem code132_1 : type_of% xcode132_1.down := xcode132_1.down
noncomputable def xty132 := PLift.up (nd @ix23 <| nd @ld39 <| nd @ln23 <| @fi132)
theorem ty132 : type_of% xty132.down := xty132.down

end Go.Proofs.Ytompindebndddaa
