/- The code of some functions, node by node, for simp. Written by a program (mkcode.py). No condition. -/
import Derived.Test.YtompindebndddaaG19
import Derived.Test.YtompindebndddaaG14
import Derived.KernelRfl
namespace Go.Proofs.Ytompindebndddaa
open Go.Am
set_option linter.unusedVariables false
set_option maxRecDepth 100000




noncomputable def K136_0 : Code := Try.f136.body.getD .skip
noncomputable def K136_1 : Code := lft K136_0
noncomputable def A136_1 : Array Oper := rops K136_1
noncomputable def K136_2 : Code := rgt K136_0
noncomputable def K136_3 : Code := lft K136_2
noncomputable def A136_3 : Array Oper := rops K136_3
noncomputable def K136_4 : Code := rgt K136_2
theorem body136 : Try.f136.body = some K136_0 := by kernel_rfl
noncomputable def xcode136_0 := PLift.up (And.intro (seqK K136_0 K136_1 K136_2 rfl) <| And.intro (regK K136_1 A136_1 rfl) <| And.intro (nilK A136_1 2 rfl) <| And.intro (opS A136_1 0 1 rfl rfl rfl) <| And.intro (opS A136_1 1 2 rfl rfl rfl) <| And.intro (seqK K136_2 K136_3 K136_4 rfl) <| And.intro (regK K136_3 A136_3 rfl) <| And.intro (nilK A136_3 7 rfl) <| And.intro (opS A136_3 0 1 rfl rfl rfl) <| And.intro (opS A136_3 1 2 rfl rfl rfl) <| And.intro (opS A136_3 2 3 rfl rfl rfl) <| And.intro (opS A136_3 3 4 rfl rfl rfl) <| And.intro (opS A136_3 4 5 rfl rfl rfl) <| And.intro (opS A136_3 5 6 rfl rfl rfl) <| And.intro (opS A136_3 6 7 rfl rfl rfl) <| retK K136_4 rfl)
theorem code136_0 : type_of% xcode136_0.down := xcode136_0.down
noncomputable def xty136 := PLift.up (And.intro @fa39_2 <| And.intro @fa39_3 <| And.intro @ld3 <| @fi136)
theorem ty136 : type_of% xty136.down := xty136.down







noncomputable def K132_0 : Code := Try.f132.body.getD .skip
noncomputable def K132_1 : Code := lft K132_0
noncomputable def A132_1 : Array Oper := rops K132_1
noncomputable def K132_2 : Code := rgt K132_0
noncomputable def K132_3 : Code := lft K132_2
noncomputable def K132_4 : Code := lft K132_3
noncomputable def A132_4 : Array Oper := rops K132_4
noncomputable def K132_5 : Code := rgt K132_3
noncomputable def K132_6 : Code := lft K132_5
noncomputable def K132_7 : Code := lft K132_6
noncomputable def K132_8 : Code := lft K132_7
noncomputable def A132_8 : Array Oper := rops K132_8
noncomputable def K132_9 : Code := rgt K132_7
noncomputable def K132_10 : Code := lft K132_9
noncomputable def K132_11 : Code := lft K132_10
noncomputable def K132_12 : Code := rgt K132_10
noncomputable def K132_13 : Code := rgt K132_9
noncomputable def K132_14 : Code := lft K132_13
noncomputable def K132_15 : Code := lft K132_14
noncomputable def K132_16 : Code := lft K132_15
noncomputable def A132_16 : Array Oper := rops K132_16
noncomputable def K132_17 : Code := rgt K132_15
noncomputable def K132_18 : Code := lft K132_17
noncomputable def A132_18 : Array Oper := rops K132_18
noncomputable def K132_19 : Code := rgt K132_17
noncomputable def K132_20 : Code := lft K132_19
noncomputable def K132_21 : Code := lft K132_20
noncomputable def A132_21 : Array Oper := rops K132_21
noncomputable def K132_22 : Code := rgt K132_20
noncomputable def K132_23 : Code := rgt K132_19
noncomputable def K132_24 : Code := rgt K132_13
noncomputable def A132_24 : Array Oper := rops K132_24
noncomputable def K132_25 : Code := rgt K132_2
noncomputable def K132_26 : Code := lft K132_25
noncomputable def A132_26 : Array Oper := rops K132_26
noncomputable def K132_27 : Code := rgt K132_25
theorem body132 : Try.f132.body = some K132_0 := by kernel_rfl
noncomputable def xcode132_0 := PLift.up (And.intro (seqK K132_0 K132_1 K132_2 rfl) <| And.intro (regK K132_1 A132_1 rfl) <| And.intro (nilK A132_1 1 rfl) <| And.intro (opS A132_1 0 1 rfl rfl rfl) <| And.intro (seqK K132_2 K132_3 K132_25 rfl) <| And.intro (seqK K132_3 K132_4 K132_5 rfl) <| And.intro (regK K132_4 A132_4 rfl) <| And.intro (nilK A132_4 3 rfl) <| And.intro (opS A132_4 0 1 rfl rfl rfl) <| And.intro (opS A132_4 1 2 rfl rfl rfl) <| And.intro (opS A132_4 2 3 rfl rfl rfl) <| And.intro (blkK K132_5 K132_6 rfl) <| And.intro (loopK K132_6 K132_7 rfl) <| And.intro (seqK K132_7 K132_8 K132_9 rfl) <| And.intro (regK K132_8 A132_8 rfl) <| And.intro (nilK A132_8 1 rfl) <| And.intro (opS A132_8 0 1 rfl rfl rfl) <| And.intro (seqK K132_9 K132_10 K132_13 rfl) <| And.intro (condK K132_10 K132_11 K132_12 rfl) <| And.intro (skipK K132_11 rfl) <| And.intro (exitK K132_12 rfl) <| And.intro (seqK K132_13 K132_14 K132_24 rfl) <| And.intro (blkK K132_14 K132_15 rfl) <| And.intro (seqK K132_15 K132_16 K132_17 rfl) <| And.intro (regK K132_16 A132_16 rfl) <| And.intro (nilK A132_16 2 rfl) <| And.intro (opS A132_16 0 1 rfl rfl rfl) <| And.intro (opS A132_16 1 2 rfl rfl rfl) <| And.intro (seqK K132_17 K132_18 K132_19 rfl) <| And.intro (regK K132_18 A132_18 rfl) <| And.intro (nilK A132_18 6 rfl) <| And.intro (opS A132_18 0 1 rfl rfl rfl) <| And.intro (opS A132_18 1 2 rfl rfl rfl) <| And.intro (opS A132_18 2 3 rfl rfl rfl) <| And.intro (opS A132_18 3 4 rfl rfl rfl) <| And.intro (opS A132_18 4 5 rfl rfl rfl) <| And.intro (opS A132_18 5 6 rfl rfl rfl) <| And.intro (condK K132_19 K132_20 K132_23 rfl) <| And.intro (seqK K132_20 K132_21 K132_22 rfl) <| regK K132_21 A132_21 rfl)
theorem code132_0 : type_of% xcode132_0.down := xcode132_0.down
noncomputable def xcode132_1 := PLift.up (And.intro (nilK A132_21 2 rfl) <| And.intro (opS A132_21 0 1 rfl rfl rfl) <| And.intro (opS A132_21 1 2 rfl rfl rfl) <| And.intro (retK K132_22 rfl) <| And.intro (skipK K132_23 rfl) <| And.intro (regK K132_24 A132_24 rfl) <| And.intro (nilK A132_24 2 rfl) <| And.intro (opS A132_24 0 1 rfl rfl rfl) <| And.intro (opS A132_24 1 2 rfl rfl rfl) <| And.intro (seqK K132_25 K132_26 K132_27 rfl) <| And.intro (regK K132_26 A132_26 rfl) <| And.intro (nilK A132_26 1 rfl) <| And.intro (opS A132_26 0 1 rfl rfl rfl) <| retK K132_27 rfl)
theorem code132_1 : type_of% xcode132_1.down := xcode132_1.down
noncomputable def xty132 := PLift.up (And.intro @ix23 <| And.intro @ld39 <| And.intro @ln23 <| @fi132)
theorem ty132 : type_of% xty132.down := xty132.down

end Go.Proofs.Ytompindebndddaa
