/- The code of some functions, node by node, for simp. Written by a program (mkcode.py). No condition. -/
import Derived.Test.YtompindebndddaaG17
import Derived.Test.YtompindebndddaaG14
import Derived.KernelRfl
namespace Go.Proofs.Ytompindebndddaa
open Go.Am
set_option linter.unusedVariables false
set_option maxRecDepth 100000
noncomputable def K80_0 : Code := Try.f80.body.getD .skip
noncomputable def K80_1 : Code := lft K80_0
noncomputable def A80_1 : Array Oper := rops K80_1
noncomputable def K80_2 : Code := rgt K80_0
noncomputable def K80_3 : Code := lft K80_2
noncomputable def A80_3 : Array Oper := rops K80_3
noncomputable def K80_4 : Code := rgt K80_2
theorem body80 : Try.f80.body = some K80_0 := by kernel_rfl
theorem code80_0 : type_of% (And.intro (seqK K80_0 K80_1 K80_2 rfl) <| And.intro (regK K80_1 A80_1 rfl) <| And.intro (nilK A80_1 2 rfl) <| And.intro (opS A80_1 0 1 rfl rfl rfl) <| And.intro (opS A80_1 1 2 rfl rfl rfl) <| And.intro (seqK K80_2 K80_3 K80_4 rfl) <| And.intro (regK K80_3 A80_3 rfl) <| And.intro (nilK A80_3 5 rfl) <| And.intro (opS A80_3 0 1 rfl rfl rfl) <| And.intro (opS A80_3 1 2 rfl rfl rfl) <| And.intro (opS A80_3 2 3 rfl rfl rfl) <| And.intro (opS A80_3 3 4 rfl rfl rfl) <| And.intro (opS A80_3 4 5 rfl rfl rfl) <| retK K80_4 rfl) := And.intro (seqK K80_0 K80_1 K80_2 rfl) <| And.intro (regK K80_1 A80_1 rfl) <| And.intro (nilK A80_1 2 rfl) <| And.intro (opS A80_1 0 1 rfl rfl rfl) <| And.intro (opS A80_1 1 2 rfl rfl rfl) <| And.intro (seqK K80_2 K80_3 K80_4 rfl) <| And.intro (regK K80_3 A80_3 rfl) <| And.intro (nilK A80_3 5 rfl) <| And.intro (opS A80_3 0 1 rfl rfl rfl) <| And.intro (opS A80_3 1 2 rfl rfl rfl) <| And.intro (opS A80_3 2 3 rfl rfl rfl) <| And.intro (opS A80_3 3 4 rfl rfl rfl) <| And.intro (opS A80_3 4 5 rfl rfl rfl) <| retK K80_4 rfl
theorem ty80 : type_of% (And.intro @ld39 <| @fi80) := And.intro @ld39 <| @fi80

noncomputable def K135_0 : Code := Try.f135.body.getD .skip
noncomputable def K135_1 : Code := lft K135_0
noncomputable def A135_1 : Array Oper := rops K135_1
noncomputable def K135_2 : Code := rgt K135_0
noncomputable def K135_3 : Code := lft K135_2
noncomputable def A135_3 : Array Oper := rops K135_3
noncomputable def K135_4 : Code := rgt K135_2
theorem body135 : Try.f135.body = some K135_0 := by kernel_rfl
theorem code135_0 : type_of% (And.intro (seqK K135_0 K135_1 K135_2 rfl) <| And.intro (regK K135_1 A135_1 rfl) <| And.intro (nilK A135_1 1 rfl) <| And.intro (opS A135_1 0 1 rfl rfl rfl) <| And.intro (seqK K135_2 K135_3 K135_4 rfl) <| And.intro (regK K135_3 A135_3 rfl) <| And.intro (nilK A135_3 5 rfl) <| And.intro (opS A135_3 0 1 rfl rfl rfl) <| And.intro (opS A135_3 1 2 rfl rfl rfl) <| And.intro (opS A135_3 2 3 rfl rfl rfl) <| And.intro (opS A135_3 3 4 rfl rfl rfl) <| And.intro (opS A135_3 4 5 rfl rfl rfl) <| retK K135_4 rfl) := And.intro (seqK K135_0 K135_1 K135_2 rfl) <| And.intro (regK K135_1 A135_1 rfl) <| And.intro (nilK A135_1 1 rfl) <| And.intro (opS A135_1 0 1 rfl rfl rfl) <| And.intro (seqK K135_2 K135_3 K135_4 rfl) <| And.intro (regK K135_3 A135_3 rfl) <| And.intro (nilK A135_3 5 rfl) <| And.intro (opS A135_3 0 1 rfl rfl rfl) <| And.intro (opS A135_3 1 2 rfl rfl rfl) <| And.intro (opS A135_3 2 3 rfl rfl rfl) <| And.intro (opS A135_3 3 4 rfl rfl rfl) <| And.intro (opS A135_3 4 5 rfl rfl rfl) <| retK K135_4 rfl
theorem ty135 : type_of% (@fi135) := @fi135

noncomputable def K168_0 : Code := Try.f168.body.getD .skip
noncomputable def K168_1 : Code := lft K168_0
noncomputable def A168_1 : Array Oper := rops K168_1
noncomputable def K168_2 : Code := rgt K168_0
noncomputable def K168_3 : Code := lft K168_2
noncomputable def K168_4 : Code := lft K168_3
noncomputable def A168_4 : Array Oper := rops K168_4
noncomputable def K168_5 : Code := rgt K168_3
noncomputable def K168_6 : Code := lft K168_5
noncomputable def K168_7 : Code := lft K168_6
noncomputable def K168_8 : Code := lft K168_7
noncomputable def A168_8 : Array Oper := rops K168_8
noncomputable def K168_9 : Code := rgt K168_7
noncomputable def K168_10 : Code := lft K168_9
noncomputable def K168_11 : Code := lft K168_10
noncomputable def K168_12 : Code := rgt K168_10
noncomputable def K168_13 : Code := rgt K168_9
noncomputable def K168_14 : Code := lft K168_13
noncomputable def K168_15 : Code := lft K168_14
noncomputable def K168_16 : Code := lft K168_15
noncomputable def A168_16 : Array Oper := rops K168_16
noncomputable def K168_17 : Code := rgt K168_15
noncomputable def K168_18 : Code := lft K168_17
noncomputable def A168_18 : Array Oper := rops K168_18
noncomputable def K168_19 : Code := rgt K168_17
noncomputable def K168_20 : Code := lft K168_19
noncomputable def K168_21 : Code := lft K168_20
noncomputable def A168_21 : Array Oper := rops K168_21
noncomputable def K168_22 : Code := rgt K168_20
noncomputable def K168_23 : Code := rgt K168_19
noncomputable def K168_24 : Code := rgt K168_13
noncomputable def A168_24 : Array Oper := rops K168_24
noncomputable def K168_25 : Code := rgt K168_2
noncomputable def K168_26 : Code := lft K168_25
noncomputable def A168_26 : Array Oper := rops K168_26
noncomputable def K168_27 : Code := rgt K168_25
theorem body168 : Try.f168.body = some K168_0 := by kernel_rfl
theorem code168_0 : type_of% (And.intro (seqK K168_0 K168_1 K168_2 rfl) <| And.intro (regK K168_1 A168_1 rfl) <| And.intro (nilK A168_1 1 rfl) <| And.intro (opS A168_1 0 1 rfl rfl rfl) <| And.intro (seqK K168_2 K168_3 K168_25 rfl) <| And.intro (seqK K168_3 K168_4 K168_5 rfl) <| And.intro (regK K168_4 A168_4 rfl) <| And.intro (nilK A168_4 3 rfl) <| And.intro (opS A168_4 0 1 rfl rfl rfl) <| And.intro (opS A168_4 1 2 rfl rfl rfl) <| And.intro (opS A168_4 2 3 rfl rfl rfl) <| And.intro (blkK K168_5 K168_6 rfl) <| And.intro (loopK K168_6 K168_7 rfl) <| And.intro (seqK K168_7 K168_8 K168_9 rfl) <| And.intro (regK K168_8 A168_8 rfl) <| And.intro (nilK A168_8 1 rfl) <| And.intro (opS A168_8 0 1 rfl rfl rfl) <| And.intro (seqK K168_9 K168_10 K168_13 rfl) <| And.intro (condK K168_10 K168_11 K168_12 rfl) <| And.intro (skipK K168_11 rfl) <| And.intro (exitK K168_12 rfl) <| And.intro (seqK K168_13 K168_14 K168_24 rfl) <| And.intro (blkK K168_14 K168_15 rfl) <| And.intro (seqK K168_15 K168_16 K168_17 rfl) <| And.intro (regK K168_16 A168_16 rfl) <| And.intro (nilK A168_16 2 rfl) <| And.intro (opS A168_16 0 1 rfl rfl rfl) <| And.intro (opS A168_16 1 2 rfl rfl rfl) <| And.intro (seqK K168_17 K168_18 K168_19 rfl) <| And.intro (regK K168_18 A168_18 rfl) <| And.intro (nilK A168_18 6 rfl) <| And.intro (opS A168_18 0 1 rfl rfl rfl) <| And.intro (opS A168_18 1 2 rfl rfl rfl) <| And.intro (opS A168_18 2 3 rfl rfl rfl) <| And.intro (opS A168_18 3 4 rfl rfl rfl) <| And.intro (opS A168_18 4 5 rfl rfl rfl) <| And.intro (opS A168_18 5 6 rfl rfl rfl) <| And.intro (condK K168_19 K168_20 K168_23 rfl) <| And.intro (seqK K168_20 K168_21 K168_22 rfl) <| regK K168_21 A168_21 rfl) := And.intro (seqK K168_0 K168_1 K168_2 rfl) <| And.intro (regK K168_1 A168_1 rfl) <| And.intro (nilK A168_1 1 rfl) <| And.intro (opS A168_1 0 1 rfl rfl rfl) <| And.intro (seqK K168_2 K168_3 K168_25 rfl) <| And.intro (seqK K168_3 K168_4 K168_5 rfl) <| And.intro (regK K168_4 A168_4 rfl) <| And.intro (nilK A168_4 3 rfl) <| And.intro (opS A168_4 0 1 rfl rfl rfl) <| And.intro (opS A168_4 1 2 rfl rfl rfl) <| And.intro (opS A168_4 2 3 rfl rfl rfl) <| And.intro (blkK K168_5 K168_6 rfl) <| And.intro (loopK K168_6 K168_7 rfl) <| And.intro (seqK K168_7 K168_8 K168_9 rfl) <| And.intro (regK K168_8 A168_8 rfl) <| And.intro (nilK A168_8 1 rfl) <| And.intro (opS A168_8 0 1 rfl rfl rfl) <| And.intro (seqK K168_9 K168_10 K168_13 rfl) <| And.intro (condK K168_10 K168_11 K168_12 rfl) <| And.intro (skipK K168_11 rfl) <| And.intro (exitK K168_12 rfl) <| And.intro (seqK K168_13 K168_14 K168_24 rfl) <| And.intro (blkK K168_14 K168_15 rfl) <| And.intro (seqK K168_15 K168_16 K168_17 rfl) <| And.intro (regK K168_16 A168_16 rfl) <| And.intro (nilK A168_16 2 rfl) <| And.intro (opS A168_16 0 1 rfl rfl rfl) <| And.intro (opS A168_16 1 2 rfl rfl rfl) <| And.intro (seqK K168_17 K168_18 K168_19 rfl) <| And.intro (regK K168_18 A168_18 rfl) <| And.intro (nilK A168_18 6 rfl) <| And.intro (opS A168_18 0 1 rfl rfl rfl) <| And.intro (opS A168_18 1 2 rfl rfl rfl) <| And.intro (opS A168_18 2 3 rfl rfl rfl) <| And.intro (opS A168_18 3 4 rfl rfl rfl) <| And.intro (opS A168_18 4 5 rfl rfl rfl) <| And.intro (opS A168_18 5 6 rfl rfl rfl) <| And.intro (condK K168_19 K168_20 K168_23 rfl) <| And.intro (seqK K168_20 K168_21 K168_22 rfl) <| regK K168_21 A168_21 rfl
theorem code168_1 : type_of% (And.intro (nilK A168_21 2 rfl) <| And.intro (opS A168_21 0 1 rfl rfl rfl) <| And.intro (opS A168_21 1 2 rfl rfl rfl) <| And.intro (retK K168_22 rfl) <| And.intro (skipK K168_23 rfl) <| And.intro (regK K168_24 A168_24 rfl) <| And.intro (nilK A168_24 2 rfl) <| And.intro (opS A168_24 0 1 rfl rfl rfl) <| And.intro (opS A168_24 1 2 rfl rfl rfl) <| And.intro (seqK K168_25 K168_26 K168_27 rfl) <| And.intro (regK K168_26 A168_26 rfl) <| And.intro (nilK A168_26 1 rfl) <| And.intro (opS A168_26 0 1 rfl rfl rfl) <| retK K168_27 rfl) := And.intro (nilK A168_21 2 rfl) <| And.intro (opS A168_21 0 1 rfl rfl rfl) <| And.intro (opS A168_21 1 2 rfl rfl rfl) <| And.intro (retK K168_22 rfl) <| And.intro (skipK K168_23 rfl) <| And.intro (regK K168_24 A168_24 rfl) <| And.intro (nilK A168_24 2 rfl) <| And.intro (opS A168_24 0 1 rfl rfl rfl) <| And.intro (opS A168_24 1 2 rfl rfl rfl) <| And.intro (seqK K168_25 K168_26 K168_27 rfl) <| And.intro (regK K168_26 A168_26 rfl) <| And.intro (nilK A168_26 1 rfl) <| And.intro (opS A168_26 0 1 rfl rfl rfl) <| retK K168_27 rfl
theorem ty168 : type_of% (And.intro @ix159 <| And.intro @ld36 <| And.intro @ln159 <| @fi168) := And.intro @ix159 <| And.intro @ld36 <| And.intro @ln159 <| @fi168

noncomputable def K137_0 : Code := Try.f137.body.getD .skip
noncomputable def K137_1 : Code := lft K137_0
noncomputable def A137_1 : Array Oper := rops K137_1
noncomputable def K137_2 : Code := rgt K137_0
noncomputable def K137_3 : Code := lft K137_2
noncomputable def A137_3 : Array Oper := rops K137_3
noncomputable def K137_4 : Code := rgt K137_2
theorem body137 : Try.f137.body = some K137_0 := by kernel_rfl
theorem code137_0 : type_of% (And.intro (seqK K137_0 K137_1 K137_2 rfl) <| And.intro (regK K137_1 A137_1 rfl) <| And.intro (nilK A137_1 2 rfl) <| And.intro (opS A137_1 0 1 rfl rfl rfl) <| And.intro (opS A137_1 1 2 rfl rfl rfl) <| And.intro (seqK K137_2 K137_3 K137_4 rfl) <| And.intro (regK K137_3 A137_3 rfl) <| And.intro (nilK A137_3 3 rfl) <| And.intro (opS A137_3 0 1 rfl rfl rfl) <| And.intro (opS A137_3 1 2 rfl rfl rfl) <| And.intro (opS A137_3 2 3 rfl rfl rfl) <| retK K137_4 rfl) := And.intro (seqK K137_0 K137_1 K137_2 rfl) <| And.intro (regK K137_1 A137_1 rfl) <| And.intro (nilK A137_1 2 rfl) <| And.intro (opS A137_1 0 1 rfl rfl rfl) <| And.intro (opS A137_1 1 2 rfl rfl rfl) <| And.intro (seqK K137_2 K137_3 K137_4 rfl) <| And.intro (regK K137_3 A137_3 rfl) <| And.intro (nilK A137_3 3 rfl) <| And.intro (opS A137_3 0 1 rfl rfl rfl) <| And.intro (opS A137_3 1 2 rfl rfl rfl) <| And.intro (opS A137_3 2 3 rfl rfl rfl) <| retK K137_4 rfl
theorem ty137 : type_of% (And.intro @fa36_0 <| And.intro @ld4 <| @fi137) := And.intro @fa36_0 <| And.intro @ld4 <| @fi137

noncomputable def K136_0 : Code := Try.f136.body.getD .skip
noncomputable def K136_1 : Code := lft K136_0
noncomputable def A136_1 : Array Oper := rops K136_1
noncomputable def K136_2 : Code := rgt K136_0
noncomputable def K136_3 : Code := lft K136_2
noncomputable def A136_3 : Array Oper := rops K136_3
noncomputable def K136_4 : Code := rgt K136_2
theorem body136 : Try.f136.body = some K136_0 := by kernel_rfl
theorem code136_0 : type_of% (And.intro (seqK K136_0 K136_1 K136_2 rfl) <| And.intro (regK K136_1 A136_1 rfl) <| And.intro (nilK A136_1 2 rfl) <| And.intro (opS A136_1 0 1 rfl rfl rfl) <| And.intro (opS A136_1 1 2 rfl rfl rfl) <| And.intro (seqK K136_2 K136_3 K136_4 rfl) <| And.intro (regK K136_3 A136_3 rfl) <| And.intro (nilK A136_3 7 rfl) <| And.intro (opS A136_3 0 1 rfl rfl rfl) <| And.intro (opS A136_3 1 2 rfl rfl rfl) <| And.intro (opS A136_3 2 3 rfl rfl rfl) <| And.intro (opS A136_3 3 4 rfl rfl rfl) <| And.intro (opS A136_3 4 5 rfl rfl rfl) <| And.intro (opS A136_3 5 6 rfl rfl rfl) <| And.intro (opS A136_3 6 7 rfl rfl rfl) <| retK K136_4 rfl) := And.intro (seqK K136_0 K136_1 K136_2 rfl) <| And.intro (regK K136_1 A136_1 rfl) <| And.intro (nilK A136_1 2 rfl) <| And.intro (opS A136_1 0 1 rfl rfl rfl) <| And.intro (opS A136_1 1 2 rfl rfl rfl) <| And.intro (seqK K136_2 K136_3 K136_4 rfl) <| And.intro (regK K136_3 A136_3 rfl) <| And.intro (nilK A136_3 7 rfl) <| And.intro (opS A136_3 0 1 rfl rfl rfl) <| And.intro (opS A136_3 1 2 rfl rfl rfl) <| And.intro (opS A136_3 2 3 rfl rfl rfl) <| And.intro (opS A136_3 3 4 rfl rfl rfl) <| And.intro (opS A136_3 4 5 rfl rfl rfl) <| And.intro (opS A136_3 5 6 rfl rfl rfl) <| And.intro (opS A136_3 6 7 rfl rfl rfl) <| retK K136_4 rfl
theorem ty136 : type_of% (And.intro @fa39_2 <| And.intro @fa39_3 <| And.intro @ld3 <| @fi136) := And.intro @fa39_2 <| And.intro @fa39_3 <| And.intro @ld3 <| @fi136

noncomputable def K81_0 : Code := Try.f81.body.getD .skip
noncomputable def K81_1 : Code := lft K81_0
noncomputable def A81_1 : Array Oper := rops K81_1
noncomputable def K81_2 : Code := rgt K81_0
noncomputable def K81_3 : Code := lft K81_2
noncomputable def A81_3 : Array Oper := rops K81_3
noncomputable def K81_4 : Code := rgt K81_2
theorem body81 : Try.f81.body = some K81_0 := by kernel_rfl
theorem code81_0 : type_of% (And.intro (seqK K81_0 K81_1 K81_2 rfl) <| And.intro (regK K81_1 A81_1 rfl) <| And.intro (nilK A81_1 2 rfl) <| And.intro (opS A81_1 0 1 rfl rfl rfl) <| And.intro (opS A81_1 1 2 rfl rfl rfl) <| And.intro (seqK K81_2 K81_3 K81_4 rfl) <| And.intro (regK K81_3 A81_3 rfl) <| And.intro (nilK A81_3 5 rfl) <| And.intro (opS A81_3 0 1 rfl rfl rfl) <| And.intro (opS A81_3 1 2 rfl rfl rfl) <| And.intro (opS A81_3 2 3 rfl rfl rfl) <| And.intro (opS A81_3 3 4 rfl rfl rfl) <| And.intro (opS A81_3 4 5 rfl rfl rfl) <| retK K81_4 rfl) := And.intro (seqK K81_0 K81_1 K81_2 rfl) <| And.intro (regK K81_1 A81_1 rfl) <| And.intro (nilK A81_1 2 rfl) <| And.intro (opS A81_1 0 1 rfl rfl rfl) <| And.intro (opS A81_1 1 2 rfl rfl rfl) <| And.intro (seqK K81_2 K81_3 K81_4 rfl) <| And.intro (regK K81_3 A81_3 rfl) <| And.intro (nilK A81_3 5 rfl) <| And.intro (opS A81_3 0 1 rfl rfl rfl) <| And.intro (opS A81_3 1 2 rfl rfl rfl) <| And.intro (opS A81_3 2 3 rfl rfl rfl) <| And.intro (opS A81_3 3 4 rfl rfl rfl) <| And.intro (opS A81_3 4 5 rfl rfl rfl) <| retK K81_4 rfl
theorem ty81 : type_of% (And.intro @ld39 <| @fi81) := And.intro @ld39 <| @fi81

noncomputable def K138_0 : Code := Try.f138.body.getD .skip
noncomputable def K138_1 : Code := lft K138_0
noncomputable def A138_1 : Array Oper := rops K138_1
noncomputable def K138_2 : Code := rgt K138_0
noncomputable def K138_3 : Code := lft K138_2
noncomputable def K138_4 : Code := lft K138_3
noncomputable def A138_4 : Array Oper := rops K138_4
noncomputable def K138_5 : Code := rgt K138_3
noncomputable def K138_6 : Code := lft K138_5
noncomputable def K138_7 : Code := lft K138_6
noncomputable def K138_8 : Code := lft K138_7
noncomputable def A138_8 : Array Oper := rops K138_8
noncomputable def K138_9 : Code := rgt K138_7
noncomputable def K138_10 : Code := lft K138_9
noncomputable def K138_11 : Code := lft K138_10
noncomputable def K138_12 : Code := rgt K138_10
noncomputable def K138_13 : Code := rgt K138_9
noncomputable def K138_14 : Code := lft K138_13
noncomputable def K138_15 : Code := lft K138_14
noncomputable def K138_16 : Code := lft K138_15
noncomputable def A138_16 : Array Oper := rops K138_16
noncomputable def K138_17 : Code := rgt K138_15
noncomputable def K138_18 : Code := lft K138_17
noncomputable def A138_18 : Array Oper := rops K138_18
noncomputable def K138_19 : Code := rgt K138_17
noncomputable def K138_20 : Code := lft K138_19
noncomputable def K138_21 : Code := lft K138_20
noncomputable def A138_21 : Array Oper := rops K138_21
noncomputable def K138_22 : Code := rgt K138_20
noncomputable def K138_23 : Code := rgt K138_19
noncomputable def K138_24 : Code := rgt K138_13
noncomputable def A138_24 : Array Oper := rops K138_24
noncomputable def K138_25 : Code := rgt K138_2
noncomputable def K138_26 : Code := lft K138_25
noncomputable def A138_26 : Array Oper := rops K138_26
noncomputable def K138_27 : Code := rgt K138_25
theorem body138 : Try.f138.body = some K138_0 := by kernel_rfl
theorem D138_18 : DrawK K138_18 A138_18 := drawK rfl (by kernel_rfl)
theorem code138_0 : type_of% (And.intro (seqK K138_0 K138_1 K138_2 rfl) <| And.intro (regK K138_1 A138_1 rfl) <| And.intro (nilK A138_1 2 rfl) <| And.intro (opS A138_1 0 1 rfl rfl rfl) <| And.intro (opS A138_1 1 2 rfl rfl rfl) <| And.intro (seqK K138_2 K138_3 K138_25 rfl) <| And.intro (seqK K138_3 K138_4 K138_5 rfl) <| And.intro (regK K138_4 A138_4 rfl) <| And.intro (nilK A138_4 3 rfl) <| And.intro (opS A138_4 0 1 rfl rfl rfl) <| And.intro (opS A138_4 1 2 rfl rfl rfl) <| And.intro (opS A138_4 2 3 rfl rfl rfl) <| And.intro (blkK K138_5 K138_6 rfl) <| And.intro (loopK K138_6 K138_7 rfl) <| And.intro (seqK K138_7 K138_8 K138_9 rfl) <| And.intro (regK K138_8 A138_8 rfl) <| And.intro (nilK A138_8 1 rfl) <| And.intro (opS A138_8 0 1 rfl rfl rfl) <| And.intro (seqK K138_9 K138_10 K138_13 rfl) <| And.intro (condK K138_10 K138_11 K138_12 rfl) <| And.intro (skipK K138_11 rfl) <| And.intro (exitK K138_12 rfl) <| And.intro (seqK K138_13 K138_14 K138_24 rfl) <| And.intro (blkK K138_14 K138_15 rfl) <| And.intro (seqK K138_15 K138_16 K138_17 rfl) <| And.intro (regK K138_16 A138_16 rfl) <| And.intro (nilK A138_16 2 rfl) <| And.intro (opS A138_16 0 1 rfl rfl rfl) <| And.intro (opS A138_16 1 2 rfl rfl rfl) <| And.intro (seqK K138_17 K138_18 K138_19 rfl) <| And.intro (nilX A138_18 6 rfl) <| And.intro (opSX A138_18 0 1 true rfl rfl rfl rfl) <| And.intro (opSX A138_18 1 2 true rfl rfl rfl rfl) <| And.intro (opSX A138_18 2 3 true rfl rfl rfl rfl) <| And.intro (opSX A138_18 3 4 true rfl rfl rfl rfl) <| And.intro (opSX A138_18 4 5 true rfl rfl rfl rfl) <| And.intro (opSX A138_18 5 6 true rfl rfl rfl rfl) <| And.intro (condK K138_19 K138_20 K138_23 rfl) <| And.intro (seqK K138_20 K138_21 K138_22 rfl) <| regK K138_21 A138_21 rfl) := And.intro (seqK K138_0 K138_1 K138_2 rfl) <| And.intro (regK K138_1 A138_1 rfl) <| And.intro (nilK A138_1 2 rfl) <| And.intro (opS A138_1 0 1 rfl rfl rfl) <| And.intro (opS A138_1 1 2 rfl rfl rfl) <| And.intro (seqK K138_2 K138_3 K138_25 rfl) <| And.intro (seqK K138_3 K138_4 K138_5 rfl) <| And.intro (regK K138_4 A138_4 rfl) <| And.intro (nilK A138_4 3 rfl) <| And.intro (opS A138_4 0 1 rfl rfl rfl) <| And.intro (opS A138_4 1 2 rfl rfl rfl) <| And.intro (opS A138_4 2 3 rfl rfl rfl) <| And.intro (blkK K138_5 K138_6 rfl) <| And.intro (loopK K138_6 K138_7 rfl) <| And.intro (seqK K138_7 K138_8 K138_9 rfl) <| And.intro (regK K138_8 A138_8 rfl) <| And.intro (nilK A138_8 1 rfl) <| And.intro (opS A138_8 0 1 rfl rfl rfl) <| And.intro (seqK K138_9 K138_10 K138_13 rfl) <| And.intro (condK K138_10 K138_11 K138_12 rfl) <| And.intro (skipK K138_11 rfl) <| And.intro (exitK K138_12 rfl) <| And.intro (seqK K138_13 K138_14 K138_24 rfl) <| And.intro (blkK K138_14 K138_15 rfl) <| And.intro (seqK K138_15 K138_16 K138_17 rfl) <| And.intro (regK K138_16 A138_16 rfl) <| And.intro (nilK A138_16 2 rfl) <| And.intro (opS A138_16 0 1 rfl rfl rfl) <| And.intro (opS A138_16 1 2 rfl rfl rfl) <| And.intro (seqK K138_17 K138_18 K138_19 rfl) <| And.intro (nilX A138_18 6 rfl) <| And.intro (opSX A138_18 0 1 true rfl rfl rfl rfl) <| And.intro (opSX A138_18 1 2 true rfl rfl rfl rfl) <| And.intro (opSX A138_18 2 3 true rfl rfl rfl rfl) <| And.intro (opSX A138_18 3 4 true rfl rfl rfl rfl) <| And.intro (opSX A138_18 4 5 true rfl rfl rfl rfl) <| And.intro (opSX A138_18 5 6 true rfl rfl rfl rfl) <| And.intro (condK K138_19 K138_20 K138_23 rfl) <| And.intro (seqK K138_20 K138_21 K138_22 rfl) <| regK K138_21 A138_21 rfl
theorem code138_1 : type_of% (And.intro (nilK A138_21 2 rfl) <| And.intro (opS A138_21 0 1 rfl rfl rfl) <| And.intro (opS A138_21 1 2 rfl rfl rfl) <| And.intro (retK K138_22 rfl) <| And.intro (skipK K138_23 rfl) <| And.intro (regK K138_24 A138_24 rfl) <| And.intro (nilK A138_24 2 rfl) <| And.intro (opS A138_24 0 1 rfl rfl rfl) <| And.intro (opS A138_24 1 2 rfl rfl rfl) <| And.intro (seqK K138_25 K138_26 K138_27 rfl) <| And.intro (regK K138_26 A138_26 rfl) <| And.intro (nilK A138_26 1 rfl) <| And.intro (opS A138_26 0 1 rfl rfl rfl) <| retK K138_27 rfl) := And.intro (nilK A138_21 2 rfl) <| And.intro (opS A138_21 0 1 rfl rfl rfl) <| And.intro (opS A138_21 1 2 rfl rfl rfl) <| And.intro (retK K138_22 rfl) <| And.intro (skipK K138_23 rfl) <| And.intro (regK K138_24 A138_24 rfl) <| And.intro (nilK A138_24 2 rfl) <| And.intro (opS A138_24 0 1 rfl rfl rfl) <| And.intro (opS A138_24 1 2 rfl rfl rfl) <| And.intro (seqK K138_25 K138_26 K138_27 rfl) <| And.intro (regK K138_26 A138_26 rfl) <| And.intro (nilK A138_26 1 rfl) <| And.intro (opS A138_26 0 1 rfl rfl rfl) <| retK K138_27 rfl
theorem ty138 : type_of% (And.intro @ix23 <| And.intro @ld39 <| And.intro @ln23 <| @fi138) := And.intro @ix23 <| And.intro @ld39 <| And.intro @ln23 <| @fi138

noncomputable def K22_0 : Code := Try.f22.body.getD .skip
noncomputable def K22_1 : Code := lft K22_0
noncomputable def A22_1 : Array Oper := rops K22_1
noncomputable def K22_2 : Code := rgt K22_0
noncomputable def K22_3 : Code := lft K22_2
noncomputable def K22_4 : Code := lft K22_3
noncomputable def A22_4 : Array Oper := rops K22_4
noncomputable def K22_5 : Code := rgt K22_3
noncomputable def K22_6 : Code := lft K22_5
noncomputable def A22_6 : Array Oper := rops K22_6
noncomputable def K22_7 : Code := rgt K22_5
noncomputable def K22_8 : Code := lft K22_7
noncomputable def K22_9 : Code := lft K22_8
noncomputable def A22_9 : Array Oper := rops K22_9
noncomputable def K22_10 : Code := rgt K22_8
noncomputable def K22_11 : Code := rgt K22_7
noncomputable def K22_12 : Code := rgt K22_2
noncomputable def K22_13 : Code := lft K22_12
noncomputable def A22_13 : Array Oper := rops K22_13
noncomputable def K22_14 : Code := rgt K22_12
theorem body22 : Try.f22.body = some K22_0 := by kernel_rfl
theorem code22_0 : type_of% (And.intro (seqK K22_0 K22_1 K22_2 rfl) <| And.intro (regK K22_1 A22_1 rfl) <| And.intro (nilK A22_1 3 rfl) <| And.intro (opS A22_1 0 1 rfl rfl rfl) <| And.intro (opS A22_1 1 2 rfl rfl rfl) <| And.intro (opS A22_1 2 3 rfl rfl rfl) <| And.intro (seqK K22_2 K22_3 K22_12 rfl) <| And.intro (seqK K22_3 K22_4 K22_5 rfl) <| And.intro (regK K22_4 A22_4 rfl) <| And.intro (nilK A22_4 4 rfl) <| And.intro (opS A22_4 0 1 rfl rfl rfl) <| And.intro (opS A22_4 1 2 rfl rfl rfl) <| And.intro (opS A22_4 2 3 rfl rfl rfl) <| And.intro (opS A22_4 3 4 rfl rfl rfl) <| And.intro (seqK K22_5 K22_6 K22_7 rfl) <| And.intro (regK K22_6 A22_6 rfl) <| And.intro (nilK A22_6 2 rfl) <| And.intro (opS A22_6 0 1 rfl rfl rfl) <| And.intro (opS A22_6 1 2 rfl rfl rfl) <| And.intro (condK K22_7 K22_8 K22_11 rfl) <| And.intro (seqK K22_8 K22_9 K22_10 rfl) <| And.intro (regK K22_9 A22_9 rfl) <| And.intro (nilK A22_9 3 rfl) <| And.intro (opS A22_9 0 1 rfl rfl rfl) <| And.intro (opS A22_9 1 2 rfl rfl rfl) <| And.intro (opS A22_9 2 3 rfl rfl rfl) <| And.intro (retK K22_10 rfl) <| And.intro (skipK K22_11 rfl) <| And.intro (seqK K22_12 K22_13 K22_14 rfl) <| And.intro (regK K22_13 A22_13 rfl) <| And.intro (nilK A22_13 2 rfl) <| And.intro (opS A22_13 0 1 rfl rfl rfl) <| And.intro (opS A22_13 1 2 rfl rfl rfl) <| retK K22_14 rfl) := And.intro (seqK K22_0 K22_1 K22_2 rfl) <| And.intro (regK K22_1 A22_1 rfl) <| And.intro (nilK A22_1 3 rfl) <| And.intro (opS A22_1 0 1 rfl rfl rfl) <| And.intro (opS A22_1 1 2 rfl rfl rfl) <| And.intro (opS A22_1 2 3 rfl rfl rfl) <| And.intro (seqK K22_2 K22_3 K22_12 rfl) <| And.intro (seqK K22_3 K22_4 K22_5 rfl) <| And.intro (regK K22_4 A22_4 rfl) <| And.intro (nilK A22_4 4 rfl) <| And.intro (opS A22_4 0 1 rfl rfl rfl) <| And.intro (opS A22_4 1 2 rfl rfl rfl) <| And.intro (opS A22_4 2 3 rfl rfl rfl) <| And.intro (opS A22_4 3 4 rfl rfl rfl) <| And.intro (seqK K22_5 K22_6 K22_7 rfl) <| And.intro (regK K22_6 A22_6 rfl) <| And.intro (nilK A22_6 2 rfl) <| And.intro (opS A22_6 0 1 rfl rfl rfl) <| And.intro (opS A22_6 1 2 rfl rfl rfl) <| And.intro (condK K22_7 K22_8 K22_11 rfl) <| And.intro (seqK K22_8 K22_9 K22_10 rfl) <| And.intro (regK K22_9 A22_9 rfl) <| And.intro (nilK A22_9 3 rfl) <| And.intro (opS A22_9 0 1 rfl rfl rfl) <| And.intro (opS A22_9 1 2 rfl rfl rfl) <| And.intro (opS A22_9 2 3 rfl rfl rfl) <| And.intro (retK K22_10 rfl) <| And.intro (skipK K22_11 rfl) <| And.intro (seqK K22_12 K22_13 K22_14 rfl) <| And.intro (regK K22_13 A22_13 rfl) <| And.intro (nilK A22_13 2 rfl) <| And.intro (opS A22_13 0 1 rfl rfl rfl) <| And.intro (opS A22_13 1 2 rfl rfl rfl) <| retK K22_14 rfl
theorem ty22 : type_of% (@fi22) := @fi22

noncomputable def K83_0 : Code := Try.f83.body.getD .skip
noncomputable def K83_1 : Code := lft K83_0
noncomputable def A83_1 : Array Oper := rops K83_1
noncomputable def K83_2 : Code := rgt K83_0
noncomputable def K83_3 : Code := lft K83_2
noncomputable def K83_4 : Code := lft K83_3
noncomputable def A83_4 : Array Oper := rops K83_4
noncomputable def K83_5 : Code := rgt K83_3
noncomputable def K83_6 : Code := lft K83_5
noncomputable def K83_7 : Code := lft K83_6
noncomputable def K83_8 : Code := lft K83_7
noncomputable def A83_8 : Array Oper := rops K83_8
noncomputable def K83_9 : Code := rgt K83_7
noncomputable def K83_10 : Code := lft K83_9
noncomputable def K83_11 : Code := lft K83_10
noncomputable def K83_12 : Code := rgt K83_10
noncomputable def K83_13 : Code := rgt K83_9
noncomputable def K83_14 : Code := lft K83_13
noncomputable def K83_15 : Code := lft K83_14
noncomputable def K83_16 : Code := lft K83_15
noncomputable def A83_16 : Array Oper := rops K83_16
noncomputable def K83_17 : Code := rgt K83_15
noncomputable def K83_18 : Code := lft K83_17
noncomputable def A83_18 : Array Oper := rops K83_18
noncomputable def K83_19 : Code := rgt K83_17
noncomputable def K83_20 : Code := lft K83_19
noncomputable def K83_21 : Code := lft K83_20
noncomputable def A83_21 : Array Oper := rops K83_21
noncomputable def K83_22 : Code := rgt K83_20
noncomputable def K83_23 : Code := rgt K83_19
noncomputable def K83_24 : Code := rgt K83_13
noncomputable def A83_24 : Array Oper := rops K83_24
noncomputable def K83_25 : Code := rgt K83_2
noncomputable def K83_26 : Code := lft K83_25
noncomputable def A83_26 : Array Oper := rops K83_26
noncomputable def K83_27 : Code := rgt K83_25
theorem body83 : Try.f83.body = some K83_0 := by kernel_rfl
theorem code83_0 : type_of% (And.intro (seqK K83_0 K83_1 K83_2 rfl) <| And.intro (regK K83_1 A83_1 rfl) <| And.intro (nilK A83_1 1 rfl) <| And.intro (opS A83_1 0 1 rfl rfl rfl) <| And.intro (seqK K83_2 K83_3 K83_25 rfl) <| And.intro (seqK K83_3 K83_4 K83_5 rfl) <| And.intro (regK K83_4 A83_4 rfl) <| And.intro (nilK A83_4 3 rfl) <| And.intro (opS A83_4 0 1 rfl rfl rfl) <| And.intro (opS A83_4 1 2 rfl rfl rfl) <| And.intro (opS A83_4 2 3 rfl rfl rfl) <| And.intro (blkK K83_5 K83_6 rfl) <| And.intro (loopK K83_6 K83_7 rfl) <| And.intro (seqK K83_7 K83_8 K83_9 rfl) <| And.intro (regK K83_8 A83_8 rfl) <| And.intro (nilK A83_8 1 rfl) <| And.intro (opS A83_8 0 1 rfl rfl rfl) <| And.intro (seqK K83_9 K83_10 K83_13 rfl) <| And.intro (condK K83_10 K83_11 K83_12 rfl) <| And.intro (skipK K83_11 rfl) <| And.intro (exitK K83_12 rfl) <| And.intro (seqK K83_13 K83_14 K83_24 rfl) <| And.intro (blkK K83_14 K83_15 rfl) <| And.intro (seqK K83_15 K83_16 K83_17 rfl) <| And.intro (regK K83_16 A83_16 rfl) <| And.intro (nilK A83_16 2 rfl) <| And.intro (opS A83_16 0 1 rfl rfl rfl) <| And.intro (opS A83_16 1 2 rfl rfl rfl) <| And.intro (seqK K83_17 K83_18 K83_19 rfl) <| And.intro (regK K83_18 A83_18 rfl) <| And.intro (nilK A83_18 6 rfl) <| And.intro (opS A83_18 0 1 rfl rfl rfl) <| And.intro (opS A83_18 1 2 rfl rfl rfl) <| And.intro (opS A83_18 2 3 rfl rfl rfl) <| And.intro (opS A83_18 3 4 rfl rfl rfl) <| And.intro (opS A83_18 4 5 rfl rfl rfl) <| And.intro (opS A83_18 5 6 rfl rfl rfl) <| And.intro (condK K83_19 K83_20 K83_23 rfl) <| And.intro (seqK K83_20 K83_21 K83_22 rfl) <| regK K83_21 A83_21 rfl) := And.intro (seqK K83_0 K83_1 K83_2 rfl) <| And.intro (regK K83_1 A83_1 rfl) <| And.intro (nilK A83_1 1 rfl) <| And.intro (opS A83_1 0 1 rfl rfl rfl) <| And.intro (seqK K83_2 K83_3 K83_25 rfl) <| And.intro (seqK K83_3 K83_4 K83_5 rfl) <| And.intro (regK K83_4 A83_4 rfl) <| And.intro (nilK A83_4 3 rfl) <| And.intro (opS A83_4 0 1 rfl rfl rfl) <| And.intro (opS A83_4 1 2 rfl rfl rfl) <| And.intro (opS A83_4 2 3 rfl rfl rfl) <| And.intro (blkK K83_5 K83_6 rfl) <| And.intro (loopK K83_6 K83_7 rfl) <| And.intro (seqK K83_7 K83_8 K83_9 rfl) <| And.intro (regK K83_8 A83_8 rfl) <| And.intro (nilK A83_8 1 rfl) <| And.intro (opS A83_8 0 1 rfl rfl rfl) <| And.intro (seqK K83_9 K83_10 K83_13 rfl) <| And.intro (condK K83_10 K83_11 K83_12 rfl) <| And.intro (skipK K83_11 rfl) <| And.intro (exitK K83_12 rfl) <| And.intro (seqK K83_13 K83_14 K83_24 rfl) <| And.intro (blkK K83_14 K83_15 rfl) <| And.intro (seqK K83_15 K83_16 K83_17 rfl) <| And.intro (regK K83_16 A83_16 rfl) <| And.intro (nilK A83_16 2 rfl) <| And.intro (opS A83_16 0 1 rfl rfl rfl) <| And.intro (opS A83_16 1 2 rfl rfl rfl) <| And.intro (seqK K83_17 K83_18 K83_19 rfl) <| And.intro (regK K83_18 A83_18 rfl) <| And.intro (nilK A83_18 6 rfl) <| And.intro (opS A83_18 0 1 rfl rfl rfl) <| And.intro (opS A83_18 1 2 rfl rfl rfl) <| And.intro (opS A83_18 2 3 rfl rfl rfl) <| And.intro (opS A83_18 3 4 rfl rfl rfl) <| And.intro (opS A83_18 4 5 rfl rfl rfl) <| And.intro (opS A83_18 5 6 rfl rfl rfl) <| And.intro (condK K83_19 K83_20 K83_23 rfl) <| And.intro (seqK K83_20 K83_21 K83_22 rfl) <| regK K83_21 A83_21 rfl
theorem code83_1 : type_of% (And.intro (nilK A83_21 2 rfl) <| And.intro (opS A83_21 0 1 rfl rfl rfl) <| And.intro (opS A83_21 1 2 rfl rfl rfl) <| And.intro (retK K83_22 rfl) <| And.intro (skipK K83_23 rfl) <| And.intro (regK K83_24 A83_24 rfl) <| And.intro (nilK A83_24 2 rfl) <| And.intro (opS A83_24 0 1 rfl rfl rfl) <| And.intro (opS A83_24 1 2 rfl rfl rfl) <| And.intro (seqK K83_25 K83_26 K83_27 rfl) <| And.intro (regK K83_26 A83_26 rfl) <| And.intro (nilK A83_26 1 rfl) <| And.intro (opS A83_26 0 1 rfl rfl rfl) <| retK K83_27 rfl) := And.intro (nilK A83_21 2 rfl) <| And.intro (opS A83_21 0 1 rfl rfl rfl) <| And.intro (opS A83_21 1 2 rfl rfl rfl) <| And.intro (retK K83_22 rfl) <| And.intro (skipK K83_23 rfl) <| And.intro (regK K83_24 A83_24 rfl) <| And.intro (nilK A83_24 2 rfl) <| And.intro (opS A83_24 0 1 rfl rfl rfl) <| And.intro (opS A83_24 1 2 rfl rfl rfl) <| And.intro (seqK K83_25 K83_26 K83_27 rfl) <| And.intro (regK K83_26 A83_26 rfl) <| And.intro (nilK A83_26 1 rfl) <| And.intro (opS A83_26 0 1 rfl rfl rfl) <| retK K83_27 rfl
theorem ty83 : type_of% (And.intro @ix24 <| And.intro @ld41 <| And.intro @ln24 <| @fi83) := And.intro @ix24 <| And.intro @ld41 <| And.intro @ln24 <| @fi83

noncomputable def K84_0 : Code := Try.f84.body.getD .skip
noncomputable def K84_1 : Code := lft K84_0
noncomputable def A84_1 : Array Oper := rops K84_1
noncomputable def K84_2 : Code := rgt K84_0
noncomputable def K84_3 : Code := lft K84_2
noncomputable def A84_3 : Array Oper := rops K84_3
noncomputable def K84_4 : Code := rgt K84_2
theorem body84 : Try.f84.body = some K84_0 := by kernel_rfl
theorem code84_0 : type_of% (And.intro (seqK K84_0 K84_1 K84_2 rfl) <| And.intro (regK K84_1 A84_1 rfl) <| And.intro (nilK A84_1 2 rfl) <| And.intro (opS A84_1 0 1 rfl rfl rfl) <| And.intro (opS A84_1 1 2 rfl rfl rfl) <| And.intro (seqK K84_2 K84_3 K84_4 rfl) <| And.intro (regK K84_3 A84_3 rfl) <| And.intro (nilK A84_3 5 rfl) <| And.intro (opS A84_3 0 1 rfl rfl rfl) <| And.intro (opS A84_3 1 2 rfl rfl rfl) <| And.intro (opS A84_3 2 3 rfl rfl rfl) <| And.intro (opS A84_3 3 4 rfl rfl rfl) <| And.intro (opS A84_3 4 5 rfl rfl rfl) <| retK K84_4 rfl) := And.intro (seqK K84_0 K84_1 K84_2 rfl) <| And.intro (regK K84_1 A84_1 rfl) <| And.intro (nilK A84_1 2 rfl) <| And.intro (opS A84_1 0 1 rfl rfl rfl) <| And.intro (opS A84_1 1 2 rfl rfl rfl) <| And.intro (seqK K84_2 K84_3 K84_4 rfl) <| And.intro (regK K84_3 A84_3 rfl) <| And.intro (nilK A84_3 5 rfl) <| And.intro (opS A84_3 0 1 rfl rfl rfl) <| And.intro (opS A84_3 1 2 rfl rfl rfl) <| And.intro (opS A84_3 2 3 rfl rfl rfl) <| And.intro (opS A84_3 3 4 rfl rfl rfl) <| And.intro (opS A84_3 4 5 rfl rfl rfl) <| retK K84_4 rfl
theorem ty84 : type_of% (And.intro @fa41_0 <| And.intro @ld39 <| @fi84) := And.intro @fa41_0 <| And.intro @ld39 <| @fi84

noncomputable def K78_0 : Code := Try.f78.body.getD .skip
noncomputable def K78_1 : Code := lft K78_0
noncomputable def A78_1 : Array Oper := rops K78_1
noncomputable def K78_2 : Code := rgt K78_0
noncomputable def K78_3 : Code := lft K78_2
noncomputable def A78_3 : Array Oper := rops K78_3
noncomputable def K78_4 : Code := rgt K78_2
theorem body78 : Try.f78.body = some K78_0 := by kernel_rfl
theorem code78_0 : type_of% (And.intro (seqK K78_0 K78_1 K78_2 rfl) <| And.intro (regK K78_1 A78_1 rfl) <| And.intro (nilK A78_1 1 rfl) <| And.intro (opS A78_1 0 1 rfl rfl rfl) <| And.intro (seqK K78_2 K78_3 K78_4 rfl) <| And.intro (regK K78_3 A78_3 rfl) <| And.intro (nilK A78_3 5 rfl) <| And.intro (opS A78_3 0 1 rfl rfl rfl) <| And.intro (opS A78_3 1 2 rfl rfl rfl) <| And.intro (opS A78_3 2 3 rfl rfl rfl) <| And.intro (opS A78_3 3 4 rfl rfl rfl) <| And.intro (opS A78_3 4 5 rfl rfl rfl) <| retK K78_4 rfl) := And.intro (seqK K78_0 K78_1 K78_2 rfl) <| And.intro (regK K78_1 A78_1 rfl) <| And.intro (nilK A78_1 1 rfl) <| And.intro (opS A78_1 0 1 rfl rfl rfl) <| And.intro (seqK K78_2 K78_3 K78_4 rfl) <| And.intro (regK K78_3 A78_3 rfl) <| And.intro (nilK A78_3 5 rfl) <| And.intro (opS A78_3 0 1 rfl rfl rfl) <| And.intro (opS A78_3 1 2 rfl rfl rfl) <| And.intro (opS A78_3 2 3 rfl rfl rfl) <| And.intro (opS A78_3 3 4 rfl rfl rfl) <| And.intro (opS A78_3 4 5 rfl rfl rfl) <| retK K78_4 rfl
theorem ty78 : type_of% (@fi78) := @fi78

noncomputable def K132_0 : Code := Try.f132.body.getD .skip
noncomputable def K132_1 : Code := lft K132_0
noncomputable def A132_1 : Array Oper := rops K132_1
noncomputable def K132_2 : Code := rgt K132_0
noncomputable def K132_3 : Code := lft K132_2
noncomputable def K132_4 : Code := lft K132_3
noncomputable def A132_4 : Array Oper := rops K132_4
noncomputable def K132_5 : Code := rgt K132_3
noncomputable def K132_6 : Code := lft K132_5
noncomputable def K132_7 : Code := lft K132_6
noncomputable def K132_8 : Code := lft K132_7
noncomputable def A132_8 : Array Oper := rops K132_8
noncomputable def K132_9 : Code := rgt K132_7
noncomputable def K132_10 : Code := lft K132_9
noncomputable def K132_11 : Code := lft K132_10
noncomputable def K132_12 : Code := rgt K132_10
noncomputable def K132_13 : Code := rgt K132_9
noncomputable def K132_14 : Code := lft K132_13
noncomputable def K132_15 : Code := lft K132_14
noncomputable def K132_16 : Code := lft K132_15
noncomputable def A132_16 : Array Oper := rops K132_16
noncomputable def K132_17 : Code := rgt K132_15
noncomputable def K132_18 : Code := lft K132_17
noncomputable def A132_18 : Array Oper := rops K132_18
noncomputable def K132_19 : Code := rgt K132_17
noncomputable def K132_20 : Code := lft K132_19
noncomputable def K132_21 : Code := lft K132_20
noncomputable def A132_21 : Array Oper := rops K132_21
noncomputable def K132_22 : Code := rgt K132_20
noncomputable def K132_23 : Code := rgt K132_19
noncomputable def K132_24 : Code := rgt K132_13
noncomputable def A132_24 : Array Oper := rops K132_24
noncomputable def K132_25 : Code := rgt K132_2
noncomputable def K132_26 : Code := lft K132_25
noncomputable def A132_26 : Array Oper := rops K132_26
noncomputable def K132_27 : Code := rgt K132_25
theorem body132 : Try.f132.body = some K132_0 := by kernel_rfl
theorem code132_0 : type_of% (And.intro (seqK K132_0 K132_1 K132_2 rfl) <| And.intro (regK K132_1 A132_1 rfl) <| And.intro (nilK A132_1 1 rfl) <| And.intro (opS A132_1 0 1 rfl rfl rfl) <| And.intro (seqK K132_2 K132_3 K132_25 rfl) <| And.intro (seqK K132_3 K132_4 K132_5 rfl) <| And.intro (regK K132_4 A132_4 rfl) <| And.intro (nilK A132_4 3 rfl) <| And.intro (opS A132_4 0 1 rfl rfl rfl) <| And.intro (opS A132_4 1 2 rfl rfl rfl) <| And.intro (opS A132_4 2 3 rfl rfl rfl) <| And.intro (blkK K132_5 K132_6 rfl) <| And.intro (loopK K132_6 K132_7 rfl) <| And.intro (seqK K132_7 K132_8 K132_9 rfl) <| And.intro (regK K132_8 A132_8 rfl) <| And.intro (nilK A132_8 1 rfl) <| And.intro (opS A132_8 0 1 rfl rfl rfl) <| And.intro (seqK K132_9 K132_10 K132_13 rfl) <| And.intro (condK K132_10 K132_11 K132_12 rfl) <| And.intro (skipK K132_11 rfl) <| And.intro (exitK K132_12 rfl) <| And.intro (seqK K132_13 K132_14 K132_24 rfl) <| And.intro (blkK K132_14 K132_15 rfl) <| And.intro (seqK K132_15 K132_16 K132_17 rfl) <| And.intro (regK K132_16 A132_16 rfl) <| And.intro (nilK A132_16 2 rfl) <| And.intro (opS A132_16 0 1 rfl rfl rfl) <| And.intro (opS A132_16 1 2 rfl rfl rfl) <| And.intro (seqK K132_17 K132_18 K132_19 rfl) <| And.intro (regK K132_18 A132_18 rfl) <| And.intro (nilK A132_18 6 rfl) <| And.intro (opS A132_18 0 1 rfl rfl rfl) <| And.intro (opS A132_18 1 2 rfl rfl rfl) <| And.intro (opS A132_18 2 3 rfl rfl rfl) <| And.intro (opS A132_18 3 4 rfl rfl rfl) <| And.intro (opS A132_18 4 5 rfl rfl rfl) <| And.intro (opS A132_18 5 6 rfl rfl rfl) <| And.intro (condK K132_19 K132_20 K132_23 rfl) <| And.intro (seqK K132_20 K132_21 K132_22 rfl) <| regK K132_21 A132_21 rfl) := And.intro (seqK K132_0 K132_1 K132_2 rfl) <| And.intro (regK K132_1 A132_1 rfl) <| And.intro (nilK A132_1 1 rfl) <| And.intro (opS A132_1 0 1 rfl rfl rfl) <| And.intro (seqK K132_2 K132_3 K132_25 rfl) <| And.intro (seqK K132_3 K132_4 K132_5 rfl) <| And.intro (regK K132_4 A132_4 rfl) <| And.intro (nilK A132_4 3 rfl) <| And.intro (opS A132_4 0 1 rfl rfl rfl) <| And.intro (opS A132_4 1 2 rfl rfl rfl) <| And.intro (opS A132_4 2 3 rfl rfl rfl) <| And.intro (blkK K132_5 K132_6 rfl) <| And.intro (loopK K132_6 K132_7 rfl) <| And.intro (seqK K132_7 K132_8 K132_9 rfl) <| And.intro (regK K132_8 A132_8 rfl) <| And.intro (nilK A132_8 1 rfl) <| And.intro (opS A132_8 0 1 rfl rfl rfl) <| And.intro (seqK K132_9 K132_10 K132_13 rfl) <| And.intro (condK K132_10 K132_11 K132_12 rfl) <| And.intro (skipK K132_11 rfl) <| And.intro (exitK K132_12 rfl) <| And.intro (seqK K132_13 K132_14 K132_24 rfl) <| And.intro (blkK K132_14 K132_15 rfl) <| And.intro (seqK K132_15 K132_16 K132_17 rfl) <| And.intro (regK K132_16 A132_16 rfl) <| And.intro (nilK A132_16 2 rfl) <| And.intro (opS A132_16 0 1 rfl rfl rfl) <| And.intro (opS A132_16 1 2 rfl rfl rfl) <| And.intro (seqK K132_17 K132_18 K132_19 rfl) <| And.intro (regK K132_18 A132_18 rfl) <| And.intro (nilK A132_18 6 rfl) <| And.intro (opS A132_18 0 1 rfl rfl rfl) <| And.intro (opS A132_18 1 2 rfl rfl rfl) <| And.intro (opS A132_18 2 3 rfl rfl rfl) <| And.intro (opS A132_18 3 4 rfl rfl rfl) <| And.intro (opS A132_18 4 5 rfl rfl rfl) <| And.intro (opS A132_18 5 6 rfl rfl rfl) <| And.intro (condK K132_19 K132_20 K132_23 rfl) <| And.intro (seqK K132_20 K132_21 K132_22 rfl) <| regK K132_21 A132_21 rfl
theorem code132_1 : type_of% (And.intro (nilK A132_21 2 rfl) <| And.intro (opS A132_21 0 1 rfl rfl rfl) <| And.intro (opS A132_21 1 2 rfl rfl rfl) <| And.intro (retK K132_22 rfl) <| And.intro (skipK K132_23 rfl) <| And.intro (regK K132_24 A132_24 rfl) <| And.intro (nilK A132_24 2 rfl) <| And.intro (opS A132_24 0 1 rfl rfl rfl) <| And.intro (opS A132_24 1 2 rfl rfl rfl) <| And.intro (seqK K132_25 K132_26 K132_27 rfl) <| And.intro (regK K132_26 A132_26 rfl) <| And.intro (nilK A132_26 1 rfl) <| And.intro (opS A132_26 0 1 rfl rfl rfl) <| retK K132_27 rfl) := And.intro (nilK A132_21 2 rfl) <| And.intro (opS A132_21 0 1 rfl rfl rfl) <| And.intro (opS A132_21 1 2 rfl rfl rfl) <| And.intro (retK K132_22 rfl) <| And.intro (skipK K132_23 rfl) <| And.intro (regK K132_24 A132_24 rfl) <| And.intro (nilK A132_24 2 rfl) <| And.intro (opS A132_24 0 1 rfl rfl rfl) <| And.intro (opS A132_24 1 2 rfl rfl rfl) <| And.intro (seqK K132_25 K132_26 K132_27 rfl) <| And.intro (regK K132_26 A132_26 rfl) <| And.intro (nilK A132_26 1 rfl) <| And.intro (opS A132_26 0 1 rfl rfl rfl) <| retK K132_27 rfl
theorem ty132 : type_of% (And.intro @ix23 <| And.intro @ld39 <| And.intro @ln23 <| @fi132) := And.intro @ix23 <| And.intro @ld39 <| And.intro @ln23 <| @fi132

noncomputable def K77_0 : Code := Try.f77.body.getD .skip
noncomputable def K77_1 : Code := lft K77_0
noncomputable def A77_1 : Array Oper := rops K77_1
noncomputable def K77_2 : Code := rgt K77_0
noncomputable def K77_3 : Code := lft K77_2
noncomputable def A77_3 : Array Oper := rops K77_3
noncomputable def K77_4 : Code := rgt K77_2
noncomputable def K77_5 : Code := lft K77_4
noncomputable def A77_5 : Array Oper := rops K77_5
noncomputable def K77_6 : Code := rgt K77_4
theorem body77 : Try.f77.body = some K77_0 := by kernel_rfl
theorem code77_0 : type_of% (And.intro (seqK K77_0 K77_1 K77_2 rfl) <| And.intro (regK K77_1 A77_1 rfl) <| And.intro (nilK A77_1 2 rfl) <| And.intro (opS A77_1 0 1 rfl rfl rfl) <| And.intro (opS A77_1 1 2 rfl rfl rfl) <| And.intro (seqK K77_2 K77_3 K77_4 rfl) <| And.intro (regK K77_3 A77_3 rfl) <| And.intro (nilK A77_3 9 rfl) <| And.intro (opS A77_3 0 1 rfl rfl rfl) <| And.intro (opS A77_3 1 2 rfl rfl rfl) <| And.intro (opS A77_3 2 3 rfl rfl rfl) <| And.intro (opS A77_3 3 4 rfl rfl rfl) <| And.intro (opS A77_3 4 5 rfl rfl rfl) <| And.intro (opS A77_3 5 6 rfl rfl rfl) <| And.intro (opS A77_3 6 7 rfl rfl rfl) <| And.intro (opN A77_3 7 8 rfl rfl rfl) <| And.intro (opS A77_3 8 9 rfl rfl rfl) <| And.intro (seqK K77_4 K77_5 K77_6 rfl) <| And.intro (regK K77_5 A77_5 rfl) <| And.intro (nilK A77_5 3 rfl) <| And.intro (opS A77_5 0 1 rfl rfl rfl) <| And.intro (opS A77_5 1 2 rfl rfl rfl) <| And.intro (opS A77_5 2 3 rfl rfl rfl) <| retK K77_6 rfl) := And.intro (seqK K77_0 K77_1 K77_2 rfl) <| And.intro (regK K77_1 A77_1 rfl) <| And.intro (nilK A77_1 2 rfl) <| And.intro (opS A77_1 0 1 rfl rfl rfl) <| And.intro (opS A77_1 1 2 rfl rfl rfl) <| And.intro (seqK K77_2 K77_3 K77_4 rfl) <| And.intro (regK K77_3 A77_3 rfl) <| And.intro (nilK A77_3 9 rfl) <| And.intro (opS A77_3 0 1 rfl rfl rfl) <| And.intro (opS A77_3 1 2 rfl rfl rfl) <| And.intro (opS A77_3 2 3 rfl rfl rfl) <| And.intro (opS A77_3 3 4 rfl rfl rfl) <| And.intro (opS A77_3 4 5 rfl rfl rfl) <| And.intro (opS A77_3 5 6 rfl rfl rfl) <| And.intro (opS A77_3 6 7 rfl rfl rfl) <| And.intro (opN A77_3 7 8 rfl rfl rfl) <| And.intro (opS A77_3 8 9 rfl rfl rfl) <| And.intro (seqK K77_4 K77_5 K77_6 rfl) <| And.intro (regK K77_5 A77_5 rfl) <| And.intro (nilK A77_5 3 rfl) <| And.intro (opS A77_5 0 1 rfl rfl rfl) <| And.intro (opS A77_5 1 2 rfl rfl rfl) <| And.intro (opS A77_5 2 3 rfl rfl rfl) <| retK K77_6 rfl
theorem ty77 : type_of% (And.intro @al104 <| And.intro @ld103 <| And.intro @ld39 <| @fi77) := And.intro @al104 <| And.intro @ld103 <| And.intro @ld39 <| @fi77
end Go.Proofs.Ytompindebndddaa
