/- The code of some functions, node by node, for simp. Written by a program (mkcode.py). No condition. -/
import Derived.Test.YtompindebndddaaG17
import Derived.Test.YtompindebndddaaG14
import Derived.KernelRfl
import Derived.Test.YtompindebndddaaG21
namespace Go.Proofs.Ytompindebndddaa
open Go.Am
set_option linter.unusedVariables false
set_option maxRecDepth 100000
noncomputable def K203_0 : Code := Try.f203.body.getD .skip
noncomputable def K203_1 : Code := lft K203_0
noncomputable def A203_1 : Array Oper := rops K203_1
noncomputable def K203_2 : Code := rgt K203_0
noncomputable def K203_3 : Code := lft K203_2
noncomputable def K203_4 : Code := lft K203_3
noncomputable def A203_4 : Array Oper := rops K203_4
noncomputable def K203_5 : Code := rgt K203_3
noncomputable def K203_6 : Code := lft K203_5
noncomputable def K203_7 : Code := lft K203_6
noncomputable def K203_8 : Code := lft K203_7
noncomputable def A203_8 : Array Oper := rops K203_8
noncomputable def K203_9 : Code := rgt K203_7
noncomputable def K203_10 : Code := lft K203_9
noncomputable def K203_11 : Code := lft K203_10
noncomputable def K203_12 : Code := rgt K203_10
noncomputable def K203_13 : Code := rgt K203_9
noncomputable def K203_14 : Code := lft K203_13
noncomputable def K203_15 : Code := lft K203_14
noncomputable def K203_16 : Code := lft K203_15
noncomputable def A203_16 : Array Oper := rops K203_16
noncomputable def K203_17 : Code := rgt K203_15
noncomputable def K203_18 : Code := lft K203_17
noncomputable def A203_18 : Array Oper := rops K203_18
noncomputable def K203_19 : Code := rgt K203_17
noncomputable def K203_20 : Code := lft K203_19
noncomputable def K203_21 : Code := lft K203_20
noncomputable def A203_21 : Array Oper := rops K203_21
noncomputable def K203_22 : Code := rgt K203_20
noncomputable def K203_23 : Code := rgt K203_19
noncomputable def K203_24 : Code := rgt K203_13
noncomputable def A203_24 : Array Oper := rops K203_24
noncomputable def K203_25 : Code := rgt K203_2
noncomputable def K203_26 : Code := lft K203_25
noncomputable def A203_26 : Array Oper := rops K203_26
noncomputable def K203_27 : Code := rgt K203_25
theorem body203 : Try.f203.body = some K203_0 := by kernel_rfl
theorem D203_18 : DrawK K203_18 A203_18 := drawK rfl (by kernel_rfl)
theorem code203_0 : type_of% (And.intro (seqK K203_0 K203_1 K203_2 rfl) <| And.intro (regK K203_1 A203_1 rfl) <| And.intro (nilK A203_1 1 rfl) <| And.intro (opS A203_1 0 1 rfl rfl rfl) <| And.intro (seqK K203_2 K203_3 K203_25 rfl) <| And.intro (seqK K203_3 K203_4 K203_5 rfl) <| And.intro (regK K203_4 A203_4 rfl) <| And.intro (nilK A203_4 3 rfl) <| And.intro (opS A203_4 0 1 rfl rfl rfl) <| And.intro (opS A203_4 1 2 rfl rfl rfl) <| And.intro (opS A203_4 2 3 rfl rfl rfl) <| And.intro (blkK K203_5 K203_6 rfl) <| And.intro (loopK K203_6 K203_7 rfl) <| And.intro (seqK K203_7 K203_8 K203_9 rfl) <| And.intro (regK K203_8 A203_8 rfl) <| And.intro (nilK A203_8 1 rfl) <| And.intro (opS A203_8 0 1 rfl rfl rfl) <| And.intro (seqK K203_9 K203_10 K203_13 rfl) <| And.intro (condK K203_10 K203_11 K203_12 rfl) <| And.intro (skipK K203_11 rfl) <| And.intro (exitK K203_12 rfl) <| And.intro (seqK K203_13 K203_14 K203_24 rfl) <| And.intro (blkK K203_14 K203_15 rfl) <| And.intro (seqK K203_15 K203_16 K203_17 rfl) <| And.intro (regK K203_16 A203_16 rfl) <| And.intro (nilK A203_16 2 rfl) <| And.intro (opS A203_16 0 1 rfl rfl rfl) <| And.intro (opS A203_16 1 2 rfl rfl rfl) <| And.intro (seqK K203_17 K203_18 K203_19 rfl) <| And.intro (nilX A203_18 16 rfl) <| And.intro (opSX A203_18 0 1 true rfl rfl rfl rfl) <| And.intro (opSX A203_18 1 2 true rfl rfl rfl rfl) <| And.intro (opSX A203_18 2 3 true rfl rfl rfl rfl) <| And.intro (opSY A203_18 3 4 true rfl rfl rfl rfl rfl) <| And.intro (opSY A203_18 4 5 true rfl rfl rfl rfl rfl) <| And.intro (opSY A203_18 5 6 true rfl rfl rfl rfl rfl) <| And.intro (opSY A203_18 6 7 true rfl rfl rfl rfl rfl) <| And.intro (opSY A203_18 7 8 true rfl rfl rfl rfl rfl) <| And.intro (opSY A203_18 8 9 true rfl rfl rfl rfl rfl) <| opSY A203_18 9 10 true rfl rfl rfl rfl rfl) := And.intro (seqK K203_0 K203_1 K203_2 rfl) <| And.intro (regK K203_1 A203_1 rfl) <| And.intro (nilK A203_1 1 rfl) <| And.intro (opS A203_1 0 1 rfl rfl rfl) <| And.intro (seqK K203_2 K203_3 K203_25 rfl) <| And.intro (seqK K203_3 K203_4 K203_5 rfl) <| And.intro (regK K203_4 A203_4 rfl) <| And.intro (nilK A203_4 3 rfl) <| And.intro (opS A203_4 0 1 rfl rfl rfl) <| And.intro (opS A203_4 1 2 rfl rfl rfl) <| And.intro (opS A203_4 2 3 rfl rfl rfl) <| And.intro (blkK K203_5 K203_6 rfl) <| And.intro (loopK K203_6 K203_7 rfl) <| And.intro (seqK K203_7 K203_8 K203_9 rfl) <| And.intro (regK K203_8 A203_8 rfl) <| And.intro (nilK A203_8 1 rfl) <| And.intro (opS A203_8 0 1 rfl rfl rfl) <| And.intro (seqK K203_9 K203_10 K203_13 rfl) <| And.intro (condK K203_10 K203_11 K203_12 rfl) <| And.intro (skipK K203_11 rfl) <| And.intro (exitK K203_12 rfl) <| And.intro (seqK K203_13 K203_14 K203_24 rfl) <| And.intro (blkK K203_14 K203_15 rfl) <| And.intro (seqK K203_15 K203_16 K203_17 rfl) <| And.intro (regK K203_16 A203_16 rfl) <| And.intro (nilK A203_16 2 rfl) <| And.intro (opS A203_16 0 1 rfl rfl rfl) <| And.intro (opS A203_16 1 2 rfl rfl rfl) <| And.intro (seqK K203_17 K203_18 K203_19 rfl) <| And.intro (nilX A203_18 16 rfl) <| And.intro (opSX A203_18 0 1 true rfl rfl rfl rfl) <| And.intro (opSX A203_18 1 2 true rfl rfl rfl rfl) <| And.intro (opSX A203_18 2 3 true rfl rfl rfl rfl) <| And.intro (opSY A203_18 3 4 true rfl rfl rfl rfl rfl) <| And.intro (opSY A203_18 4 5 true rfl rfl rfl rfl rfl) <| And.intro (opSY A203_18 5 6 true rfl rfl rfl rfl rfl) <| And.intro (opSY A203_18 6 7 true rfl rfl rfl rfl rfl) <| And.intro (opSY A203_18 7 8 true rfl rfl rfl rfl rfl) <| And.intro (opSY A203_18 8 9 true rfl rfl rfl rfl rfl) <| opSY A203_18 9 10 true rfl rfl rfl rfl rfl
theorem code203_1 : type_of% (And.intro (opSY A203_18 10 11 true rfl rfl rfl rfl rfl) <| And.intro (opSY A203_18 11 12 true rfl rfl rfl rfl rfl) <| And.intro (opSY A203_18 12 13 true rfl rfl rfl rfl rfl) <| And.intro (opSY A203_18 13 14 true rfl rfl rfl rfl rfl) <| And.intro (opSY A203_18 14 15 true rfl rfl rfl rfl rfl) <| And.intro (opSX A203_18 15 16 true rfl rfl rfl rfl) <| And.intro (condK K203_19 K203_20 K203_23 rfl) <| And.intro (seqK K203_20 K203_21 K203_22 rfl) <| And.intro (regK K203_21 A203_21 rfl) <| And.intro (nilK A203_21 1 rfl) <| And.intro (opS A203_21 0 1 rfl rfl rfl) <| And.intro (retK K203_22 rfl) <| And.intro (skipK K203_23 rfl) <| And.intro (regK K203_24 A203_24 rfl) <| And.intro (nilK A203_24 2 rfl) <| And.intro (opS A203_24 0 1 rfl rfl rfl) <| And.intro (opS A203_24 1 2 rfl rfl rfl) <| And.intro (seqK K203_25 K203_26 K203_27 rfl) <| And.intro (regK K203_26 A203_26 rfl) <| And.intro (nilK A203_26 1 rfl) <| And.intro (opS A203_26 0 1 rfl rfl rfl) <| retK K203_27 rfl) := And.intro (opSY A203_18 10 11 true rfl rfl rfl rfl rfl) <| And.intro (opSY A203_18 11 12 true rfl rfl rfl rfl rfl) <| And.intro (opSY A203_18 12 13 true rfl rfl rfl rfl rfl) <| And.intro (opSY A203_18 13 14 true rfl rfl rfl rfl rfl) <| And.intro (opSY A203_18 14 15 true rfl rfl rfl rfl rfl) <| And.intro (opSX A203_18 15 16 true rfl rfl rfl rfl) <| And.intro (condK K203_19 K203_20 K203_23 rfl) <| And.intro (seqK K203_20 K203_21 K203_22 rfl) <| And.intro (regK K203_21 A203_21 rfl) <| And.intro (nilK A203_21 1 rfl) <| And.intro (opS A203_21 0 1 rfl rfl rfl) <| And.intro (retK K203_22 rfl) <| And.intro (skipK K203_23 rfl) <| And.intro (regK K203_24 A203_24 rfl) <| And.intro (nilK A203_24 2 rfl) <| And.intro (opS A203_24 0 1 rfl rfl rfl) <| And.intro (opS A203_24 1 2 rfl rfl rfl) <| And.intro (seqK K203_25 K203_26 K203_27 rfl) <| And.intro (regK K203_26 A203_26 rfl) <| And.intro (nilK A203_26 1 rfl) <| And.intro (opS A203_26 0 1 rfl rfl rfl) <| retK K203_27 rfl
theorem ty203 : type_of% (And.intro @fa192_0 <| And.intro @ix162 <| And.intro @ld9 <| And.intro @ln162 <| @fi203) := And.intro @fa192_0 <| And.intro @ix162 <| And.intro @ld9 <| And.intro @ln162 <| @fi203

noncomputable def K204_0 : Code := Try.f204.body.getD .skip
noncomputable def K204_1 : Code := lft K204_0
noncomputable def A204_1 : Array Oper := rops K204_1
noncomputable def K204_2 : Code := rgt K204_0
noncomputable def K204_3 : Code := lft K204_2
noncomputable def A204_3 : Array Oper := rops K204_3
noncomputable def K204_4 : Code := rgt K204_2
noncomputable def K204_5 : Code := lft K204_4
noncomputable def K204_6 : Code := lft K204_5
noncomputable def K204_7 : Code := lft K204_6
noncomputable def K204_8 : Code := lft K204_7
noncomputable def K204_9 : Code := lft K204_8
noncomputable def A204_9 : Array Oper := rops K204_9
noncomputable def K204_10 : Code := rgt K204_8
noncomputable def K204_11 : Code := lft K204_10
noncomputable def K204_12 : Code := rgt K204_10
noncomputable def K204_13 : Code := rgt K204_7
noncomputable def K204_14 : Code := lft K204_13
noncomputable def K204_15 : Code := lft K204_14
noncomputable def A204_15 : Array Oper := rops K204_15
noncomputable def K204_16 : Code := rgt K204_14
noncomputable def K204_17 : Code := lft K204_16
noncomputable def A204_17 : Array Oper := rops K204_17
noncomputable def K204_18 : Code := rgt K204_16
noncomputable def K204_19 : Code := lft K204_18
noncomputable def A204_19 : Array Oper := rops K204_19
noncomputable def K204_20 : Code := rgt K204_18
noncomputable def A204_20 : Array Oper := rops K204_20
noncomputable def K204_21 : Code := rgt K204_4
noncomputable def K204_22 : Code := lft K204_21
noncomputable def A204_22 : Array Oper := rops K204_22
noncomputable def K204_23 : Code := rgt K204_21
theorem body204 : Try.f204.body = some K204_0 := by kernel_rfl
theorem code204_0 : type_of% (And.intro (seqK K204_0 K204_1 K204_2 rfl) <| And.intro (regK K204_1 A204_1 rfl) <| And.intro (nilK A204_1 1 rfl) <| And.intro (opS A204_1 0 1 rfl rfl rfl) <| And.intro (seqK K204_2 K204_3 K204_4 rfl) <| And.intro (regK K204_3 A204_3 rfl) <| And.intro (nilK A204_3 3 rfl) <| And.intro (opS A204_3 0 1 rfl rfl rfl) <| And.intro (opS A204_3 1 2 rfl rfl rfl) <| And.intro (opS A204_3 2 3 rfl rfl rfl) <| And.intro (seqK K204_4 K204_5 K204_21 rfl) <| And.intro (blkK K204_5 K204_6 rfl) <| And.intro (loopK K204_6 K204_7 rfl) <| And.intro (seqK K204_7 K204_8 K204_13 rfl) <| And.intro (seqK K204_8 K204_9 K204_10 rfl) <| And.intro (regK K204_9 A204_9 rfl) <| And.intro (nilK A204_9 3 rfl) <| And.intro (opS A204_9 0 1 rfl rfl rfl) <| And.intro (opS A204_9 1 2 rfl rfl rfl) <| And.intro (opS A204_9 2 3 rfl rfl rfl) <| And.intro (condK K204_10 K204_11 K204_12 rfl) <| And.intro (skipK K204_11 rfl) <| And.intro (exitK K204_12 rfl) <| And.intro (blkK K204_13 K204_14 rfl) <| And.intro (seqK K204_14 K204_15 K204_16 rfl) <| And.intro (regK K204_15 A204_15 rfl) <| And.intro (nilK A204_15 7 rfl) <| And.intro (opS A204_15 0 1 rfl rfl rfl) <| And.intro (opS A204_15 1 2 rfl rfl rfl) <| And.intro (opS A204_15 2 3 rfl rfl rfl) <| And.intro (opS A204_15 3 4 rfl rfl rfl) <| And.intro (opS A204_15 4 5 rfl rfl rfl) <| And.intro (opS A204_15 5 6 rfl rfl rfl) <| And.intro (opS A204_15 6 7 rfl rfl rfl) <| And.intro (seqK K204_16 K204_17 K204_18 rfl) <| And.intro (regK K204_17 A204_17 rfl) <| And.intro (nilK A204_17 4 rfl) <| And.intro (opS A204_17 0 1 rfl rfl rfl) <| And.intro (opS A204_17 1 2 rfl rfl rfl) <| opS A204_17 2 3 rfl rfl rfl) := And.intro (seqK K204_0 K204_1 K204_2 rfl) <| And.intro (regK K204_1 A204_1 rfl) <| And.intro (nilK A204_1 1 rfl) <| And.intro (opS A204_1 0 1 rfl rfl rfl) <| And.intro (seqK K204_2 K204_3 K204_4 rfl) <| And.intro (regK K204_3 A204_3 rfl) <| And.intro (nilK A204_3 3 rfl) <| And.intro (opS A204_3 0 1 rfl rfl rfl) <| And.intro (opS A204_3 1 2 rfl rfl rfl) <| And.intro (opS A204_3 2 3 rfl rfl rfl) <| And.intro (seqK K204_4 K204_5 K204_21 rfl) <| And.intro (blkK K204_5 K204_6 rfl) <| And.intro (loopK K204_6 K204_7 rfl) <| And.intro (seqK K204_7 K204_8 K204_13 rfl) <| And.intro (seqK K204_8 K204_9 K204_10 rfl) <| And.intro (regK K204_9 A204_9 rfl) <| And.intro (nilK A204_9 3 rfl) <| And.intro (opS A204_9 0 1 rfl rfl rfl) <| And.intro (opS A204_9 1 2 rfl rfl rfl) <| And.intro (opS A204_9 2 3 rfl rfl rfl) <| And.intro (condK K204_10 K204_11 K204_12 rfl) <| And.intro (skipK K204_11 rfl) <| And.intro (exitK K204_12 rfl) <| And.intro (blkK K204_13 K204_14 rfl) <| And.intro (seqK K204_14 K204_15 K204_16 rfl) <| And.intro (regK K204_15 A204_15 rfl) <| And.intro (nilK A204_15 7 rfl) <| And.intro (opS A204_15 0 1 rfl rfl rfl) <| And.intro (opS A204_15 1 2 rfl rfl rfl) <| And.intro (opS A204_15 2 3 rfl rfl rfl) <| And.intro (opS A204_15 3 4 rfl rfl rfl) <| And.intro (opS A204_15 4 5 rfl rfl rfl) <| And.intro (opS A204_15 5 6 rfl rfl rfl) <| And.intro (opS A204_15 6 7 rfl rfl rfl) <| And.intro (seqK K204_16 K204_17 K204_18 rfl) <| And.intro (regK K204_17 A204_17 rfl) <| And.intro (nilK A204_17 4 rfl) <| And.intro (opS A204_17 0 1 rfl rfl rfl) <| And.intro (opS A204_17 1 2 rfl rfl rfl) <| opS A204_17 2 3 rfl rfl rfl
theorem code204_1 : type_of% (And.intro (opS A204_17 3 4 rfl rfl rfl) <| And.intro (condK K204_18 K204_19 K204_20 rfl) <| And.intro (regK K204_19 A204_19 rfl) <| And.intro (nilK A204_19 3 rfl) <| And.intro (opS A204_19 0 1 rfl rfl rfl) <| And.intro (opS A204_19 1 2 rfl rfl rfl) <| And.intro (opS A204_19 2 3 rfl rfl rfl) <| And.intro (regK K204_20 A204_20 rfl) <| And.intro (nilK A204_20 2 rfl) <| And.intro (opS A204_20 0 1 rfl rfl rfl) <| And.intro (opS A204_20 1 2 rfl rfl rfl) <| And.intro (seqK K204_21 K204_22 K204_23 rfl) <| And.intro (regK K204_22 A204_22 rfl) <| And.intro (nilK A204_22 2 rfl) <| And.intro (opS A204_22 0 1 rfl rfl rfl) <| And.intro (opS A204_22 1 2 rfl rfl rfl) <| retK K204_23 rfl) := And.intro (opS A204_17 3 4 rfl rfl rfl) <| And.intro (condK K204_18 K204_19 K204_20 rfl) <| And.intro (regK K204_19 A204_19 rfl) <| And.intro (nilK A204_19 3 rfl) <| And.intro (opS A204_19 0 1 rfl rfl rfl) <| And.intro (opS A204_19 1 2 rfl rfl rfl) <| And.intro (opS A204_19 2 3 rfl rfl rfl) <| And.intro (regK K204_20 A204_20 rfl) <| And.intro (nilK A204_20 2 rfl) <| And.intro (opS A204_20 0 1 rfl rfl rfl) <| And.intro (opS A204_20 1 2 rfl rfl rfl) <| And.intro (seqK K204_21 K204_22 K204_23 rfl) <| And.intro (regK K204_22 A204_22 rfl) <| And.intro (nilK A204_22 2 rfl) <| And.intro (opS A204_22 0 1 rfl rfl rfl) <| And.intro (opS A204_22 1 2 rfl rfl rfl) <| retK K204_23 rfl
theorem ty204 : type_of% (@fi204) := @fi204

noncomputable def K205_0 : Code := Try.f205.body.getD .skip
noncomputable def K205_1 : Code := lft K205_0
noncomputable def A205_1 : Array Oper := rops K205_1
noncomputable def K205_2 : Code := rgt K205_0
noncomputable def K205_3 : Code := lft K205_2
noncomputable def A205_3 : Array Oper := rops K205_3
noncomputable def K205_4 : Code := rgt K205_2
theorem body205 : Try.f205.body = some K205_0 := by kernel_rfl
theorem D205_3 : DrawK K205_3 A205_3 := drawK rfl (by kernel_rfl)
theorem code205_0 : type_of% (And.intro (seqK K205_0 K205_1 K205_2 rfl) <| And.intro (regK K205_1 A205_1 rfl) <| And.intro (nilK A205_1 1 rfl) <| And.intro (opS A205_1 0 1 rfl rfl rfl) <| And.intro (seqK K205_2 K205_3 K205_4 rfl) <| And.intro (nilX A205_3 8 rfl) <| And.intro (opSX A205_3 0 1 true rfl rfl rfl rfl) <| And.intro (opSX A205_3 1 2 true rfl rfl rfl rfl) <| And.intro (opSX A205_3 2 3 true rfl rfl rfl rfl) <| And.intro (opSX A205_3 3 4 true rfl rfl rfl rfl) <| And.intro (opSX A205_3 4 5 true rfl rfl rfl rfl) <| And.intro (opSX A205_3 5 6 true rfl rfl rfl rfl) <| And.intro (opSX A205_3 6 7 true rfl rfl rfl rfl) <| And.intro (opSX A205_3 7 8 true rfl rfl rfl rfl) <| retK K205_4 rfl) := And.intro (seqK K205_0 K205_1 K205_2 rfl) <| And.intro (regK K205_1 A205_1 rfl) <| And.intro (nilK A205_1 1 rfl) <| And.intro (opS A205_1 0 1 rfl rfl rfl) <| And.intro (seqK K205_2 K205_3 K205_4 rfl) <| And.intro (nilX A205_3 8 rfl) <| And.intro (opSX A205_3 0 1 true rfl rfl rfl rfl) <| And.intro (opSX A205_3 1 2 true rfl rfl rfl rfl) <| And.intro (opSX A205_3 2 3 true rfl rfl rfl rfl) <| And.intro (opSX A205_3 3 4 true rfl rfl rfl rfl) <| And.intro (opSX A205_3 4 5 true rfl rfl rfl rfl) <| And.intro (opSX A205_3 5 6 true rfl rfl rfl rfl) <| And.intro (opSX A205_3 6 7 true rfl rfl rfl rfl) <| And.intro (opSX A205_3 7 8 true rfl rfl rfl rfl) <| retK K205_4 rfl
theorem ty205 : type_of% (And.intro @fa192_0 <| And.intro @ix162 <| And.intro @ld162 <| And.intro @ld9 <| @fi205) := And.intro @fa192_0 <| And.intro @ix162 <| And.intro @ld162 <| And.intro @ld9 <| @fi205

noncomputable def K171_0 : Code := Try.f171.body.getD .skip
noncomputable def K171_1 : Code := lft K171_0
noncomputable def A171_1 : Array Oper := rops K171_1
noncomputable def K171_2 : Code := rgt K171_0
noncomputable def K171_3 : Code := lft K171_2
noncomputable def A171_3 : Array Oper := rops K171_3
noncomputable def K171_4 : Code := rgt K171_2
noncomputable def K171_5 : Code := lft K171_4
noncomputable def K171_6 : Code := lft K171_5
noncomputable def A171_6 : Array Oper := rops K171_6
noncomputable def K171_7 : Code := rgt K171_5
noncomputable def K171_8 : Code := lft K171_7
noncomputable def A171_8 : Array Oper := rops K171_8
noncomputable def K171_9 : Code := rgt K171_7
noncomputable def K171_10 : Code := rgt K171_4
noncomputable def K171_11 : Code := lft K171_10
noncomputable def K171_12 : Code := lft K171_11
noncomputable def K171_13 : Code := lft K171_12
noncomputable def K171_14 : Code := lft K171_13
noncomputable def K171_15 : Code := lft K171_14
noncomputable def A171_15 : Array Oper := rops K171_15
noncomputable def K171_16 : Code := rgt K171_14
noncomputable def K171_17 : Code := lft K171_16
noncomputable def K171_18 : Code := rgt K171_16
noncomputable def K171_19 : Code := rgt K171_13
noncomputable def K171_20 : Code := lft K171_19
noncomputable def K171_21 : Code := lft K171_20
noncomputable def K171_22 : Code := lft K171_21
noncomputable def A171_22 : Array Oper := rops K171_22
noncomputable def K171_23 : Code := rgt K171_21
noncomputable def K171_24 : Code := lft K171_23
noncomputable def K171_25 : Code := lft K171_24
noncomputable def A171_25 : Array Oper := rops K171_25
noncomputable def K171_26 : Code := rgt K171_24
noncomputable def K171_27 : Code := rgt K171_23
noncomputable def K171_28 : Code := rgt K171_19
noncomputable def A171_28 : Array Oper := rops K171_28
noncomputable def K171_29 : Code := rgt K171_10
noncomputable def K171_30 : Code := lft K171_29
noncomputable def A171_30 : Array Oper := rops K171_30
noncomputable def K171_31 : Code := rgt K171_29
theorem body171 : Try.f171.body = some K171_0 := by kernel_rfl
theorem D171_22 : DrawK K171_22 A171_22 := drawK rfl (by kernel_rfl)
theorem code171_0 : type_of% (And.intro (seqK K171_0 K171_1 K171_2 rfl) <| And.intro (regK K171_1 A171_1 rfl) <| And.intro (nilK A171_1 4 rfl) <| And.intro (opS A171_1 0 1 rfl rfl rfl) <| And.intro (opS A171_1 1 2 rfl rfl rfl) <| And.intro (opS A171_1 2 3 rfl rfl rfl) <| And.intro (opS A171_1 3 4 rfl rfl rfl) <| And.intro (seqK K171_2 K171_3 K171_4 rfl) <| And.intro (regK K171_3 A171_3 rfl) <| And.intro (nilK A171_3 1 rfl) <| And.intro (opS A171_3 0 1 rfl rfl rfl) <| And.intro (seqK K171_4 K171_5 K171_10 rfl) <| And.intro (seqK K171_5 K171_6 K171_7 rfl) <| And.intro (regK K171_6 A171_6 rfl) <| And.intro (nilK A171_6 2 rfl) <| And.intro (opS A171_6 0 1 rfl rfl rfl) <| And.intro (opS A171_6 1 2 rfl rfl rfl) <| And.intro (condK K171_7 K171_8 K171_9 rfl) <| And.intro (regK K171_8 A171_8 rfl) <| And.intro (nilK A171_8 5 rfl) <| And.intro (opS A171_8 0 1 rfl rfl rfl) <| And.intro (opS A171_8 1 2 rfl rfl rfl) <| And.intro (opS A171_8 2 3 rfl rfl rfl) <| And.intro (opS A171_8 3 4 rfl rfl rfl) <| And.intro (opS A171_8 4 5 rfl rfl rfl) <| And.intro (skipK K171_9 rfl) <| And.intro (seqK K171_10 K171_11 K171_29 rfl) <| And.intro (blkK K171_11 K171_12 rfl) <| And.intro (loopK K171_12 K171_13 rfl) <| And.intro (seqK K171_13 K171_14 K171_19 rfl) <| And.intro (seqK K171_14 K171_15 K171_16 rfl) <| And.intro (regK K171_15 A171_15 rfl) <| And.intro (nilK A171_15 4 rfl) <| And.intro (opS A171_15 0 1 rfl rfl rfl) <| And.intro (opS A171_15 1 2 rfl rfl rfl) <| And.intro (opS A171_15 2 3 rfl rfl rfl) <| And.intro (opS A171_15 3 4 rfl rfl rfl) <| And.intro (condK K171_16 K171_17 K171_18 rfl) <| And.intro (skipK K171_17 rfl) <| exitK K171_18 rfl) := And.intro (seqK K171_0 K171_1 K171_2 rfl) <| And.intro (regK K171_1 A171_1 rfl) <| And.intro (nilK A171_1 4 rfl) <| And.intro (opS A171_1 0 1 rfl rfl rfl) <| And.intro (opS A171_1 1 2 rfl rfl rfl) <| And.intro (opS A171_1 2 3 rfl rfl rfl) <| And.intro (opS A171_1 3 4 rfl rfl rfl) <| And.intro (seqK K171_2 K171_3 K171_4 rfl) <| And.intro (regK K171_3 A171_3 rfl) <| And.intro (nilK A171_3 1 rfl) <| And.intro (opS A171_3 0 1 rfl rfl rfl) <| And.intro (seqK K171_4 K171_5 K171_10 rfl) <| And.intro (seqK K171_5 K171_6 K171_7 rfl) <| And.intro (regK K171_6 A171_6 rfl) <| And.intro (nilK A171_6 2 rfl) <| And.intro (opS A171_6 0 1 rfl rfl rfl) <| And.intro (opS A171_6 1 2 rfl rfl rfl) <| And.intro (condK K171_7 K171_8 K171_9 rfl) <| And.intro (regK K171_8 A171_8 rfl) <| And.intro (nilK A171_8 5 rfl) <| And.intro (opS A171_8 0 1 rfl rfl rfl) <| And.intro (opS A171_8 1 2 rfl rfl rfl) <| And.intro (opS A171_8 2 3 rfl rfl rfl) <| And.intro (opS A171_8 3 4 rfl rfl rfl) <| And.intro (opS A171_8 4 5 rfl rfl rfl) <| And.intro (skipK K171_9 rfl) <| And.intro (seqK K171_10 K171_11 K171_29 rfl) <| And.intro (blkK K171_11 K171_12 rfl) <| And.intro (loopK K171_12 K171_13 rfl) <| And.intro (seqK K171_13 K171_14 K171_19 rfl) <| And.intro (seqK K171_14 K171_15 K171_16 rfl) <| And.intro (regK K171_15 A171_15 rfl) <| And.intro (nilK A171_15 4 rfl) <| And.intro (opS A171_15 0 1 rfl rfl rfl) <| And.intro (opS A171_15 1 2 rfl rfl rfl) <| And.intro (opS A171_15 2 3 rfl rfl rfl) <| And.intro (opS A171_15 3 4 rfl rfl rfl) <| And.intro (condK K171_16 K171_17 K171_18 rfl) <| And.intro (skipK K171_17 rfl) <| exitK K171_18 rfl
theorem code171_1 : type_of% (And.intro (seqK K171_19 K171_20 K171_28 rfl) <| And.intro (blkK K171_20 K171_21 rfl) <| And.intro (seqK K171_21 K171_22 K171_23 rfl) <| And.intro (nilX A171_22 7 rfl) <| And.intro (opSX A171_22 0 1 true rfl rfl rfl rfl) <| And.intro (opSX A171_22 1 2 true rfl rfl rfl rfl) <| And.intro (opSX A171_22 2 3 true rfl rfl rfl rfl) <| And.intro (opSX A171_22 3 4 true rfl rfl rfl rfl) <| And.intro (opSX A171_22 4 5 true rfl rfl rfl rfl) <| And.intro (opSX A171_22 5 6 true rfl rfl rfl rfl) <| And.intro (opSX A171_22 6 7 true rfl rfl rfl rfl) <| And.intro (condK K171_23 K171_24 K171_27 rfl) <| And.intro (seqK K171_24 K171_25 K171_26 rfl) <| And.intro (regK K171_25 A171_25 rfl) <| And.intro (nilK A171_25 7 rfl) <| And.intro (opS A171_25 0 1 rfl rfl rfl) <| And.intro (opS A171_25 1 2 rfl rfl rfl) <| And.intro (opS A171_25 2 3 rfl rfl rfl) <| And.intro (opS A171_25 3 4 rfl rfl rfl) <| And.intro (opS A171_25 4 5 rfl rfl rfl) <| And.intro (opN A171_25 5 6 rfl rfl rfl) <| And.intro (opS A171_25 6 7 rfl rfl rfl) <| And.intro (retK K171_26 rfl) <| And.intro (skipK K171_27 rfl) <| And.intro (regK K171_28 A171_28 rfl) <| And.intro (nilK A171_28 3 rfl) <| And.intro (opS A171_28 0 1 rfl rfl rfl) <| And.intro (opS A171_28 1 2 rfl rfl rfl) <| And.intro (opS A171_28 2 3 rfl rfl rfl) <| And.intro (seqK K171_29 K171_30 K171_31 rfl) <| And.intro (regK K171_30 A171_30 rfl) <| And.intro (nilK A171_30 3 rfl) <| And.intro (opS A171_30 0 1 rfl rfl rfl) <| And.intro (opN A171_30 1 2 rfl rfl rfl) <| And.intro (opS A171_30 2 3 rfl rfl rfl) <| retK K171_31 rfl) := And.intro (seqK K171_19 K171_20 K171_28 rfl) <| And.intro (blkK K171_20 K171_21 rfl) <| And.intro (seqK K171_21 K171_22 K171_23 rfl) <| And.intro (nilX A171_22 7 rfl) <| And.intro (opSX A171_22 0 1 true rfl rfl rfl rfl) <| And.intro (opSX A171_22 1 2 true rfl rfl rfl rfl) <| And.intro (opSX A171_22 2 3 true rfl rfl rfl rfl) <| And.intro (opSX A171_22 3 4 true rfl rfl rfl rfl) <| And.intro (opSX A171_22 4 5 true rfl rfl rfl rfl) <| And.intro (opSX A171_22 5 6 true rfl rfl rfl rfl) <| And.intro (opSX A171_22 6 7 true rfl rfl rfl rfl) <| And.intro (condK K171_23 K171_24 K171_27 rfl) <| And.intro (seqK K171_24 K171_25 K171_26 rfl) <| And.intro (regK K171_25 A171_25 rfl) <| And.intro (nilK A171_25 7 rfl) <| And.intro (opS A171_25 0 1 rfl rfl rfl) <| And.intro (opS A171_25 1 2 rfl rfl rfl) <| And.intro (opS A171_25 2 3 rfl rfl rfl) <| And.intro (opS A171_25 3 4 rfl rfl rfl) <| And.intro (opS A171_25 4 5 rfl rfl rfl) <| And.intro (opN A171_25 5 6 rfl rfl rfl) <| And.intro (opS A171_25 6 7 rfl rfl rfl) <| And.intro (retK K171_26 rfl) <| And.intro (skipK K171_27 rfl) <| And.intro (regK K171_28 A171_28 rfl) <| And.intro (nilK A171_28 3 rfl) <| And.intro (opS A171_28 0 1 rfl rfl rfl) <| And.intro (opS A171_28 1 2 rfl rfl rfl) <| And.intro (opS A171_28 2 3 rfl rfl rfl) <| And.intro (seqK K171_29 K171_30 K171_31 rfl) <| And.intro (regK K171_30 A171_30 rfl) <| And.intro (nilK A171_30 3 rfl) <| And.intro (opS A171_30 0 1 rfl rfl rfl) <| And.intro (opN A171_30 1 2 rfl rfl rfl) <| And.intro (opS A171_30 2 3 rfl rfl rfl) <| retK K171_31 rfl
theorem ty171 : type_of% (And.intro @al36 <| And.intro @fa192_0 <| And.intro @fa192_1 <| And.intro @ix162 <| And.intro @ld162 <| And.intro @ld36 <| And.intro @ld9 <| And.intro @ln162 <| @fi171) := And.intro @al36 <| And.intro @fa192_0 <| And.intro @fa192_1 <| And.intro @ix162 <| And.intro @ld162 <| And.intro @ld36 <| And.intro @ld9 <| And.intro @ln162 <| @fi171

noncomputable def K169_0 : Code := Try.f169.body.getD .skip
noncomputable def K169_1 : Code := lft K169_0
noncomputable def A169_1 : Array Oper := rops K169_1
noncomputable def K169_2 : Code := rgt K169_0
noncomputable def K169_3 : Code := lft K169_2
noncomputable def K169_4 : Code := lft K169_3
noncomputable def A169_4 : Array Oper := rops K169_4
noncomputable def K169_5 : Code := rgt K169_3
noncomputable def K169_6 : Code := lft K169_5
noncomputable def K169_7 : Code := lft K169_6
noncomputable def A169_7 : Array Oper := rops K169_7
noncomputable def K169_8 : Code := rgt K169_6
noncomputable def K169_9 : Code := rgt K169_5
noncomputable def K169_10 : Code := rgt K169_2
noncomputable def K169_11 : Code := lft K169_10
noncomputable def K169_12 : Code := lft K169_11
noncomputable def A169_12 : Array Oper := rops K169_12
noncomputable def K169_13 : Code := rgt K169_11
noncomputable def K169_14 : Code := lft K169_13
noncomputable def K169_15 : Code := lft K169_14
noncomputable def K169_16 : Code := lft K169_15
noncomputable def A169_16 : Array Oper := rops K169_16
noncomputable def K169_17 : Code := rgt K169_15
noncomputable def K169_18 : Code := lft K169_17
noncomputable def K169_19 : Code := lft K169_18
noncomputable def K169_20 : Code := rgt K169_18
noncomputable def K169_21 : Code := rgt K169_17
noncomputable def K169_22 : Code := lft K169_21
noncomputable def K169_23 : Code := lft K169_22
noncomputable def K169_24 : Code := lft K169_23
noncomputable def A169_24 : Array Oper := rops K169_24
noncomputable def K169_25 : Code := rgt K169_23
noncomputable def K169_26 : Code := lft K169_25
noncomputable def A169_26 : Array Oper := rops K169_26
noncomputable def K169_27 : Code := rgt K169_25
noncomputable def K169_28 : Code := lft K169_27
noncomputable def A169_28 : Array Oper := rops K169_28
noncomputable def K169_29 : Code := rgt K169_27
noncomputable def K169_30 : Code := lft K169_29
noncomputable def K169_31 : Code := lft K169_30
noncomputable def A169_31 : Array Oper := rops K169_31
noncomputable def K169_32 : Code := rgt K169_30
noncomputable def K169_33 : Code := rgt K169_29
noncomputable def K169_34 : Code := rgt K169_21
noncomputable def A169_34 : Array Oper := rops K169_34
noncomputable def K169_35 : Code := rgt K169_10
noncomputable def K169_36 : Code := lft K169_35
noncomputable def A169_36 : Array Oper := rops K169_36
noncomputable def K169_37 : Code := rgt K169_35
theorem body169 : Try.f169.body = some K169_0 := by kernel_rfl
theorem code169_0 : type_of% (And.intro (seqK K169_0 K169_1 K169_2 rfl) <| And.intro (regK K169_1 A169_1 rfl) <| And.intro (nilK A169_1 1 rfl) <| And.intro (opS A169_1 0 1 rfl rfl rfl) <| And.intro (seqK K169_2 K169_3 K169_10 rfl) <| And.intro (seqK K169_3 K169_4 K169_5 rfl) <| And.intro (regK K169_4 A169_4 rfl) <| And.intro (nilK A169_4 3 rfl) <| And.intro (opS A169_4 0 1 rfl rfl rfl) <| And.intro (opS A169_4 1 2 rfl rfl rfl) <| And.intro (opS A169_4 2 3 rfl rfl rfl) <| And.intro (condK K169_5 K169_6 K169_9 rfl) <| And.intro (seqK K169_6 K169_7 K169_8 rfl) <| And.intro (regK K169_7 A169_7 rfl) <| And.intro (nilK A169_7 1 rfl) <| And.intro (opS A169_7 0 1 rfl rfl rfl) <| And.intro (retK K169_8 rfl) <| And.intro (skipK K169_9 rfl) <| And.intro (seqK K169_10 K169_11 K169_35 rfl) <| And.intro (seqK K169_11 K169_12 K169_13 rfl) <| And.intro (regK K169_12 A169_12 rfl) <| And.intro (nilK A169_12 3 rfl) <| And.intro (opS A169_12 0 1 rfl rfl rfl) <| And.intro (opS A169_12 1 2 rfl rfl rfl) <| And.intro (opS A169_12 2 3 rfl rfl rfl) <| And.intro (blkK K169_13 K169_14 rfl) <| And.intro (loopK K169_14 K169_15 rfl) <| And.intro (seqK K169_15 K169_16 K169_17 rfl) <| And.intro (regK K169_16 A169_16 rfl) <| And.intro (nilK A169_16 1 rfl) <| And.intro (opS A169_16 0 1 rfl rfl rfl) <| And.intro (seqK K169_17 K169_18 K169_21 rfl) <| And.intro (condK K169_18 K169_19 K169_20 rfl) <| And.intro (skipK K169_19 rfl) <| And.intro (exitK K169_20 rfl) <| And.intro (seqK K169_21 K169_22 K169_34 rfl) <| And.intro (blkK K169_22 K169_23 rfl) <| And.intro (seqK K169_23 K169_24 K169_25 rfl) <| And.intro (regK K169_24 A169_24 rfl) <| nilK A169_24 4 rfl) := And.intro (seqK K169_0 K169_1 K169_2 rfl) <| And.intro (regK K169_1 A169_1 rfl) <| And.intro (nilK A169_1 1 rfl) <| And.intro (opS A169_1 0 1 rfl rfl rfl) <| And.intro (seqK K169_2 K169_3 K169_10 rfl) <| And.intro (seqK K169_3 K169_4 K169_5 rfl) <| And.intro (regK K169_4 A169_4 rfl) <| And.intro (nilK A169_4 3 rfl) <| And.intro (opS A169_4 0 1 rfl rfl rfl) <| And.intro (opS A169_4 1 2 rfl rfl rfl) <| And.intro (opS A169_4 2 3 rfl rfl rfl) <| And.intro (condK K169_5 K169_6 K169_9 rfl) <| And.intro (seqK K169_6 K169_7 K169_8 rfl) <| And.intro (regK K169_7 A169_7 rfl) <| And.intro (nilK A169_7 1 rfl) <| And.intro (opS A169_7 0 1 rfl rfl rfl) <| And.intro (retK K169_8 rfl) <| And.intro (skipK K169_9 rfl) <| And.intro (seqK K169_10 K169_11 K169_35 rfl) <| And.intro (seqK K169_11 K169_12 K169_13 rfl) <| And.intro (regK K169_12 A169_12 rfl) <| And.intro (nilK A169_12 3 rfl) <| And.intro (opS A169_12 0 1 rfl rfl rfl) <| And.intro (opS A169_12 1 2 rfl rfl rfl) <| And.intro (opS A169_12 2 3 rfl rfl rfl) <| And.intro (blkK K169_13 K169_14 rfl) <| And.intro (loopK K169_14 K169_15 rfl) <| And.intro (seqK K169_15 K169_16 K169_17 rfl) <| And.intro (regK K169_16 A169_16 rfl) <| And.intro (nilK A169_16 1 rfl) <| And.intro (opS A169_16 0 1 rfl rfl rfl) <| And.intro (seqK K169_17 K169_18 K169_21 rfl) <| And.intro (condK K169_18 K169_19 K169_20 rfl) <| And.intro (skipK K169_19 rfl) <| And.intro (exitK K169_20 rfl) <| And.intro (seqK K169_21 K169_22 K169_34 rfl) <| And.intro (blkK K169_22 K169_23 rfl) <| And.intro (seqK K169_23 K169_24 K169_25 rfl) <| And.intro (regK K169_24 A169_24 rfl) <| nilK A169_24 4 rfl
theorem code169_1 : type_of% (And.intro (opS A169_24 0 1 rfl rfl rfl) <| And.intro (opS A169_24 1 2 rfl rfl rfl) <| And.intro (opS A169_24 2 3 rfl rfl rfl) <| And.intro (opN A169_24 3 4 rfl rfl rfl) <| And.intro (seqK K169_25 K169_26 K169_27 rfl) <| And.intro (regK K169_26 A169_26 rfl) <| And.intro (nilK A169_26 11 rfl) <| And.intro (opS A169_26 0 1 rfl rfl rfl) <| And.intro (opS A169_26 1 2 rfl rfl rfl) <| And.intro (opS A169_26 2 3 rfl rfl rfl) <| And.intro (opS A169_26 3 4 rfl rfl rfl) <| And.intro (opS A169_26 4 5 rfl rfl rfl) <| And.intro (opS A169_26 5 6 rfl rfl rfl) <| And.intro (opS A169_26 6 7 rfl rfl rfl) <| And.intro (opS A169_26 7 8 rfl rfl rfl) <| And.intro (opS A169_26 8 9 rfl rfl rfl) <| And.intro (opN A169_26 9 10 rfl rfl rfl) <| And.intro (opS A169_26 10 11 rfl rfl rfl) <| And.intro (seqK K169_27 K169_28 K169_29 rfl) <| And.intro (regK K169_28 A169_28 rfl) <| And.intro (nilK A169_28 12 rfl) <| And.intro (opS A169_28 0 1 rfl rfl rfl) <| And.intro (opS A169_28 1 2 rfl rfl rfl) <| And.intro (opS A169_28 2 3 rfl rfl rfl) <| And.intro (opS A169_28 3 4 rfl rfl rfl) <| And.intro (opS A169_28 4 5 rfl rfl rfl) <| And.intro (opSG A169_28 5 6 rfl rfl rfl rfl) <| And.intro (opSG A169_28 6 7 rfl rfl rfl rfl) <| And.intro (opSG A169_28 7 8 rfl rfl rfl rfl) <| And.intro (opSG A169_28 8 9 rfl rfl rfl rfl) <| And.intro (opSG A169_28 9 10 rfl rfl rfl rfl) <| And.intro (opSG A169_28 10 11 rfl rfl rfl rfl) <| And.intro (opS A169_28 11 12 rfl rfl rfl) <| And.intro (condK K169_29 K169_30 K169_33 rfl) <| And.intro (seqK K169_30 K169_31 K169_32 rfl) <| And.intro (regK K169_31 A169_31 rfl) <| And.intro (nilK A169_31 1 rfl) <| And.intro (opS A169_31 0 1 rfl rfl rfl) <| And.intro (retK K169_32 rfl) <| skipK K169_33 rfl) := And.intro (opS A169_24 0 1 rfl rfl rfl) <| And.intro (opS A169_24 1 2 rfl rfl rfl) <| And.intro (opS A169_24 2 3 rfl rfl rfl) <| And.intro (opN A169_24 3 4 rfl rfl rfl) <| And.intro (seqK K169_25 K169_26 K169_27 rfl) <| And.intro (regK K169_26 A169_26 rfl) <| And.intro (nilK A169_26 11 rfl) <| And.intro (opS A169_26 0 1 rfl rfl rfl) <| And.intro (opS A169_26 1 2 rfl rfl rfl) <| And.intro (opS A169_26 2 3 rfl rfl rfl) <| And.intro (opS A169_26 3 4 rfl rfl rfl) <| And.intro (opS A169_26 4 5 rfl rfl rfl) <| And.intro (opS A169_26 5 6 rfl rfl rfl) <| And.intro (opS A169_26 6 7 rfl rfl rfl) <| And.intro (opS A169_26 7 8 rfl rfl rfl) <| And.intro (opS A169_26 8 9 rfl rfl rfl) <| And.intro (opN A169_26 9 10 rfl rfl rfl) <| And.intro (opS A169_26 10 11 rfl rfl rfl) <| And.intro (seqK K169_27 K169_28 K169_29 rfl) <| And.intro (regK K169_28 A169_28 rfl) <| And.intro (nilK A169_28 12 rfl) <| And.intro (opS A169_28 0 1 rfl rfl rfl) <| And.intro (opS A169_28 1 2 rfl rfl rfl) <| And.intro (opS A169_28 2 3 rfl rfl rfl) <| And.intro (opS A169_28 3 4 rfl rfl rfl) <| And.intro (opS A169_28 4 5 rfl rfl rfl) <| And.intro (opSG A169_28 5 6 rfl rfl rfl rfl) <| And.intro (opSG A169_28 6 7 rfl rfl rfl rfl) <| And.intro (opSG A169_28 7 8 rfl rfl rfl rfl) <| And.intro (opSG A169_28 8 9 rfl rfl rfl rfl) <| And.intro (opSG A169_28 9 10 rfl rfl rfl rfl) <| And.intro (opSG A169_28 10 11 rfl rfl rfl rfl) <| And.intro (opS A169_28 11 12 rfl rfl rfl) <| And.intro (condK K169_29 K169_30 K169_33 rfl) <| And.intro (seqK K169_30 K169_31 K169_32 rfl) <| And.intro (regK K169_31 A169_31 rfl) <| And.intro (nilK A169_31 1 rfl) <| And.intro (opS A169_31 0 1 rfl rfl rfl) <| And.intro (retK K169_32 rfl) <| skipK K169_33 rfl
theorem code169_2 : type_of% (And.intro (regK K169_34 A169_34 rfl) <| And.intro (nilK A169_34 2 rfl) <| And.intro (opS A169_34 0 1 rfl rfl rfl) <| And.intro (opS A169_34 1 2 rfl rfl rfl) <| And.intro (seqK K169_35 K169_36 K169_37 rfl) <| And.intro (regK K169_36 A169_36 rfl) <| And.intro (nilK A169_36 1 rfl) <| And.intro (opS A169_36 0 1 rfl rfl rfl) <| retK K169_37 rfl) := And.intro (regK K169_34 A169_34 rfl) <| And.intro (nilK A169_34 2 rfl) <| And.intro (opS A169_34 0 1 rfl rfl rfl) <| And.intro (opS A169_34 1 2 rfl rfl rfl) <| And.intro (seqK K169_35 K169_36 K169_37 rfl) <| And.intro (regK K169_36 A169_36 rfl) <| And.intro (nilK A169_36 1 rfl) <| And.intro (opS A169_36 0 1 rfl rfl rfl) <| retK K169_37 rfl
theorem ty169 : type_of% (And.intro @al192 <| And.intro @al36 <| And.intro @fa192_1 <| And.intro @fa36_0 <| And.intro @fa36_1 <| And.intro @ix162 <| And.intro @ld192 <| And.intro @ld4 <| And.intro @ld9 <| And.intro @ln162 <| @fi169) := And.intro @al192 <| And.intro @al36 <| And.intro @fa192_1 <| And.intro @fa36_0 <| And.intro @fa36_1 <| And.intro @ix162 <| And.intro @ld192 <| And.intro @ld4 <| And.intro @ld9 <| And.intro @ln162 <| @fi169

noncomputable def K206_0 : Code := Try.f206.body.getD .skip
noncomputable def K206_1 : Code := lft K206_0
noncomputable def A206_1 : Array Oper := rops K206_1
noncomputable def K206_2 : Code := rgt K206_0
noncomputable def K206_3 : Code := lft K206_2
noncomputable def K206_4 : Code := lft K206_3
noncomputable def A206_4 : Array Oper := rops K206_4
noncomputable def K206_5 : Code := rgt K206_3
noncomputable def K206_6 : Code := lft K206_5
noncomputable def A206_6 : Array Oper := rops K206_6
noncomputable def K206_7 : Code := rgt K206_5
noncomputable def K206_8 : Code := lft K206_7
noncomputable def K206_9 : Code := lft K206_8
noncomputable def A206_9 : Array Oper := rops K206_9
noncomputable def K206_10 : Code := rgt K206_8
noncomputable def K206_11 : Code := rgt K206_7
noncomputable def K206_12 : Code := rgt K206_2
noncomputable def K206_13 : Code := lft K206_12
noncomputable def A206_13 : Array Oper := rops K206_13
noncomputable def K206_14 : Code := rgt K206_12
theorem body206 : Try.f206.body = some K206_0 := by kernel_rfl
theorem code206_0 : type_of% (And.intro (seqK K206_0 K206_1 K206_2 rfl) <| And.intro (regK K206_1 A206_1 rfl) <| And.intro (nilK A206_1 2 rfl) <| And.intro (opS A206_1 0 1 rfl rfl rfl) <| And.intro (opS A206_1 1 2 rfl rfl rfl) <| And.intro (seqK K206_2 K206_3 K206_12 rfl) <| And.intro (seqK K206_3 K206_4 K206_5 rfl) <| And.intro (regK K206_4 A206_4 rfl) <| And.intro (nilK A206_4 10 rfl) <| And.intro (opS A206_4 0 1 rfl rfl rfl) <| And.intro (opS A206_4 1 2 rfl rfl rfl) <| And.intro (opS A206_4 2 3 rfl rfl rfl) <| And.intro (opS A206_4 3 4 rfl rfl rfl) <| And.intro (opS A206_4 4 5 rfl rfl rfl) <| And.intro (opS A206_4 5 6 rfl rfl rfl) <| And.intro (opS A206_4 6 7 rfl rfl rfl) <| And.intro (opS A206_4 7 8 rfl rfl rfl) <| And.intro (opN A206_4 8 9 rfl rfl rfl) <| And.intro (opS A206_4 9 10 rfl rfl rfl) <| And.intro (seqK K206_5 K206_6 K206_7 rfl) <| And.intro (regK K206_6 A206_6 rfl) <| And.intro (nilK A206_6 5 rfl) <| And.intro (opS A206_6 0 1 rfl rfl rfl) <| And.intro (opS A206_6 1 2 rfl rfl rfl) <| And.intro (opSG A206_6 2 3 rfl rfl rfl rfl) <| And.intro (opSG A206_6 3 4 rfl rfl rfl rfl) <| And.intro (opS A206_6 4 5 rfl rfl rfl) <| And.intro (condK K206_7 K206_8 K206_11 rfl) <| And.intro (seqK K206_8 K206_9 K206_10 rfl) <| And.intro (regK K206_9 A206_9 rfl) <| And.intro (nilK A206_9 2 rfl) <| And.intro (opS A206_9 0 1 rfl rfl rfl) <| And.intro (opN A206_9 1 2 rfl rfl rfl) <| And.intro (retK K206_10 rfl) <| And.intro (skipK K206_11 rfl) <| And.intro (seqK K206_12 K206_13 K206_14 rfl) <| And.intro (regK K206_13 A206_13 rfl) <| And.intro (nilK A206_13 2 rfl) <| And.intro (opS A206_13 0 1 rfl rfl rfl) <| opN A206_13 1 2 rfl rfl rfl) := And.intro (seqK K206_0 K206_1 K206_2 rfl) <| And.intro (regK K206_1 A206_1 rfl) <| And.intro (nilK A206_1 2 rfl) <| And.intro (opS A206_1 0 1 rfl rfl rfl) <| And.intro (opS A206_1 1 2 rfl rfl rfl) <| And.intro (seqK K206_2 K206_3 K206_12 rfl) <| And.intro (seqK K206_3 K206_4 K206_5 rfl) <| And.intro (regK K206_4 A206_4 rfl) <| And.intro (nilK A206_4 10 rfl) <| And.intro (opS A206_4 0 1 rfl rfl rfl) <| And.intro (opS A206_4 1 2 rfl rfl rfl) <| And.intro (opS A206_4 2 3 rfl rfl rfl) <| And.intro (opS A206_4 3 4 rfl rfl rfl) <| And.intro (opS A206_4 4 5 rfl rfl rfl) <| And.intro (opS A206_4 5 6 rfl rfl rfl) <| And.intro (opS A206_4 6 7 rfl rfl rfl) <| And.intro (opS A206_4 7 8 rfl rfl rfl) <| And.intro (opN A206_4 8 9 rfl rfl rfl) <| And.intro (opS A206_4 9 10 rfl rfl rfl) <| And.intro (seqK K206_5 K206_6 K206_7 rfl) <| And.intro (regK K206_6 A206_6 rfl) <| And.intro (nilK A206_6 5 rfl) <| And.intro (opS A206_6 0 1 rfl rfl rfl) <| And.intro (opS A206_6 1 2 rfl rfl rfl) <| And.intro (opSG A206_6 2 3 rfl rfl rfl rfl) <| And.intro (opSG A206_6 3 4 rfl rfl rfl rfl) <| And.intro (opS A206_6 4 5 rfl rfl rfl) <| And.intro (condK K206_7 K206_8 K206_11 rfl) <| And.intro (seqK K206_8 K206_9 K206_10 rfl) <| And.intro (regK K206_9 A206_9 rfl) <| And.intro (nilK A206_9 2 rfl) <| And.intro (opS A206_9 0 1 rfl rfl rfl) <| And.intro (opN A206_9 1 2 rfl rfl rfl) <| And.intro (retK K206_10 rfl) <| And.intro (skipK K206_11 rfl) <| And.intro (seqK K206_12 K206_13 K206_14 rfl) <| And.intro (regK K206_13 A206_13 rfl) <| And.intro (nilK A206_13 2 rfl) <| And.intro (opS A206_13 0 1 rfl rfl rfl) <| opN A206_13 1 2 rfl rfl rfl
theorem code206_1 : type_of% (retK K206_14 rfl) := retK K206_14 rfl
theorem ty206 : type_of% (And.intro @al36 <| And.intro @fa36_0 <| And.intro @fa36_1 <| And.intro @ld36 <| And.intro @ld4 <| And.intro @ld9 <| @fi206) := And.intro @al36 <| And.intro @fa36_0 <| And.intro @fa36_1 <| And.intro @ld36 <| And.intro @ld4 <| And.intro @ld9 <| @fi206

noncomputable def K207_0 : Code := Try.f207.body.getD .skip
noncomputable def K207_1 : Code := lft K207_0
noncomputable def A207_1 : Array Oper := rops K207_1
noncomputable def K207_2 : Code := rgt K207_0
noncomputable def K207_3 : Code := lft K207_2
noncomputable def A207_3 : Array Oper := rops K207_3
noncomputable def K207_4 : Code := rgt K207_2
theorem body207 : Try.f207.body = some K207_0 := by kernel_rfl
theorem code207_0 : type_of% (And.intro (seqK K207_0 K207_1 K207_2 rfl) <| And.intro (regK K207_1 A207_1 rfl) <| And.intro (nilK A207_1 2 rfl) <| And.intro (opS A207_1 0 1 rfl rfl rfl) <| And.intro (opS A207_1 1 2 rfl rfl rfl) <| And.intro (seqK K207_2 K207_3 K207_4 rfl) <| And.intro (regK K207_3 A207_3 rfl) <| And.intro (nilK A207_3 12 rfl) <| And.intro (opS A207_3 0 1 rfl rfl rfl) <| And.intro (opS A207_3 1 2 rfl rfl rfl) <| And.intro (opS A207_3 2 3 rfl rfl rfl) <| And.intro (opS A207_3 3 4 rfl rfl rfl) <| And.intro (opSG A207_3 4 5 rfl rfl rfl rfl) <| And.intro (opSG A207_3 5 6 rfl rfl rfl rfl) <| And.intro (opSG A207_3 6 7 rfl rfl rfl rfl) <| And.intro (opSG A207_3 7 8 rfl rfl rfl rfl) <| And.intro (opSG A207_3 8 9 rfl rfl rfl rfl) <| And.intro (opSG A207_3 9 10 rfl rfl rfl rfl) <| And.intro (opS A207_3 10 11 rfl rfl rfl) <| And.intro (opS A207_3 11 12 rfl rfl rfl) <| retK K207_4 rfl) := And.intro (seqK K207_0 K207_1 K207_2 rfl) <| And.intro (regK K207_1 A207_1 rfl) <| And.intro (nilK A207_1 2 rfl) <| And.intro (opS A207_1 0 1 rfl rfl rfl) <| And.intro (opS A207_1 1 2 rfl rfl rfl) <| And.intro (seqK K207_2 K207_3 K207_4 rfl) <| And.intro (regK K207_3 A207_3 rfl) <| And.intro (nilK A207_3 12 rfl) <| And.intro (opS A207_3 0 1 rfl rfl rfl) <| And.intro (opS A207_3 1 2 rfl rfl rfl) <| And.intro (opS A207_3 2 3 rfl rfl rfl) <| And.intro (opS A207_3 3 4 rfl rfl rfl) <| And.intro (opSG A207_3 4 5 rfl rfl rfl rfl) <| And.intro (opSG A207_3 5 6 rfl rfl rfl rfl) <| And.intro (opSG A207_3 6 7 rfl rfl rfl rfl) <| And.intro (opSG A207_3 7 8 rfl rfl rfl rfl) <| And.intro (opSG A207_3 8 9 rfl rfl rfl rfl) <| And.intro (opSG A207_3 9 10 rfl rfl rfl rfl) <| And.intro (opS A207_3 10 11 rfl rfl rfl) <| And.intro (opS A207_3 11 12 rfl rfl rfl) <| retK K207_4 rfl
theorem ty207 : type_of% (And.intro @fa192_0 <| And.intro @fa192_1 <| And.intro @fa36_0 <| And.intro @fa36_1 <| And.intro @ld4 <| And.intro @ld9 <| @fi207) := And.intro @fa192_0 <| And.intro @fa192_1 <| And.intro @fa36_0 <| And.intro @fa36_1 <| And.intro @ld4 <| And.intro @ld9 <| @fi207

noncomputable def K208_0 : Code := Try.f208.body.getD .skip
noncomputable def K208_1 : Code := lft K208_0
noncomputable def A208_1 : Array Oper := rops K208_1
noncomputable def K208_2 : Code := rgt K208_0
noncomputable def K208_3 : Code := lft K208_2
noncomputable def A208_3 : Array Oper := rops K208_3
noncomputable def K208_4 : Code := rgt K208_2
noncomputable def K208_5 : Code := lft K208_4
noncomputable def A208_5 : Array Oper := rops K208_5
noncomputable def K208_6 : Code := rgt K208_4
theorem body208 : Try.f208.body = some K208_0 := by kernel_rfl
theorem D208_5 : DrawK K208_5 A208_5 := drawK rfl (by kernel_rfl)
theorem code208_0 : type_of% (And.intro (seqK K208_0 K208_1 K208_2 rfl) <| And.intro (regK K208_1 A208_1 rfl) <| And.intro (nilK A208_1 3 rfl) <| And.intro (opS A208_1 0 1 rfl rfl rfl) <| And.intro (opS A208_1 1 2 rfl rfl rfl) <| And.intro (opS A208_1 2 3 rfl rfl rfl) <| And.intro (seqK K208_2 K208_3 K208_4 rfl) <| And.intro (regK K208_3 A208_3 rfl) <| And.intro (nilK A208_3 5 rfl) <| And.intro (opS A208_3 0 1 rfl rfl rfl) <| And.intro (opS A208_3 1 2 rfl rfl rfl) <| And.intro (opS A208_3 2 3 rfl rfl rfl) <| And.intro (opS A208_3 3 4 rfl rfl rfl) <| And.intro (opS A208_3 4 5 rfl rfl rfl) <| And.intro (seqK K208_4 K208_5 K208_6 rfl) <| And.intro (nilX A208_5 12 rfl) <| And.intro (opSX A208_5 0 1 true rfl rfl rfl rfl) <| And.intro (opSX A208_5 1 2 true rfl rfl rfl rfl) <| And.intro (opSX A208_5 2 3 true rfl rfl rfl rfl) <| And.intro (opSX A208_5 3 4 true rfl rfl rfl rfl) <| And.intro (opSX A208_5 4 5 true rfl rfl rfl rfl) <| And.intro (opSX A208_5 5 6 false rfl rfl rfl rfl) <| And.intro (opSX A208_5 6 7 false rfl rfl rfl rfl) <| And.intro (opSX A208_5 7 8 true rfl rfl rfl rfl) <| And.intro (opSX A208_5 8 9 true rfl rfl rfl rfl) <| And.intro (opSX A208_5 9 10 true rfl rfl rfl rfl) <| And.intro (opSX A208_5 10 11 false rfl rfl rfl rfl) <| And.intro (opSX A208_5 11 12 true rfl rfl rfl rfl) <| retK K208_6 rfl) := And.intro (seqK K208_0 K208_1 K208_2 rfl) <| And.intro (regK K208_1 A208_1 rfl) <| And.intro (nilK A208_1 3 rfl) <| And.intro (opS A208_1 0 1 rfl rfl rfl) <| And.intro (opS A208_1 1 2 rfl rfl rfl) <| And.intro (opS A208_1 2 3 rfl rfl rfl) <| And.intro (seqK K208_2 K208_3 K208_4 rfl) <| And.intro (regK K208_3 A208_3 rfl) <| And.intro (nilK A208_3 5 rfl) <| And.intro (opS A208_3 0 1 rfl rfl rfl) <| And.intro (opS A208_3 1 2 rfl rfl rfl) <| And.intro (opS A208_3 2 3 rfl rfl rfl) <| And.intro (opS A208_3 3 4 rfl rfl rfl) <| And.intro (opS A208_3 4 5 rfl rfl rfl) <| And.intro (seqK K208_4 K208_5 K208_6 rfl) <| And.intro (nilX A208_5 12 rfl) <| And.intro (opSX A208_5 0 1 true rfl rfl rfl rfl) <| And.intro (opSX A208_5 1 2 true rfl rfl rfl rfl) <| And.intro (opSX A208_5 2 3 true rfl rfl rfl rfl) <| And.intro (opSX A208_5 3 4 true rfl rfl rfl rfl) <| And.intro (opSX A208_5 4 5 true rfl rfl rfl rfl) <| And.intro (opSX A208_5 5 6 false rfl rfl rfl rfl) <| And.intro (opSX A208_5 6 7 false rfl rfl rfl rfl) <| And.intro (opSX A208_5 7 8 true rfl rfl rfl rfl) <| And.intro (opSX A208_5 8 9 true rfl rfl rfl rfl) <| And.intro (opSX A208_5 9 10 true rfl rfl rfl rfl) <| And.intro (opSX A208_5 10 11 false rfl rfl rfl rfl) <| And.intro (opSX A208_5 11 12 true rfl rfl rfl rfl) <| retK K208_6 rfl
theorem ty208 : type_of% (And.intro @bs162 <| And.intro @ld162 <| And.intro @ld192 <| And.intro @ln162 <| @fi208) := And.intro @bs162 <| And.intro @ld162 <| And.intro @ld192 <| And.intro @ln162 <| @fi208

noncomputable def K222_0 : Code := Try.f222.body.getD .skip
noncomputable def K222_1 : Code := lft K222_0
noncomputable def A222_1 : Array Oper := rops K222_1
noncomputable def K222_2 : Code := rgt K222_0
noncomputable def K222_3 : Code := lft K222_2
noncomputable def A222_3 : Array Oper := rops K222_3
noncomputable def K222_4 : Code := rgt K222_2
theorem body222 : Try.f222.body = some K222_0 := by kernel_rfl
theorem D222_3 : DrawK K222_3 A222_3 := drawK rfl (by kernel_rfl)
theorem code222_0 : type_of% (And.intro (seqK K222_0 K222_1 K222_2 rfl) <| And.intro (regK K222_1 A222_1 rfl) <| And.intro (nilK A222_1 1 rfl) <| And.intro (opS A222_1 0 1 rfl rfl rfl) <| And.intro (seqK K222_2 K222_3 K222_4 rfl) <| And.intro (nilX A222_3 9 rfl) <| And.intro (opSX A222_3 0 1 true rfl rfl rfl rfl) <| And.intro (opSX A222_3 1 2 true rfl rfl rfl rfl) <| And.intro (opSX A222_3 2 3 true rfl rfl rfl rfl) <| And.intro (opSX A222_3 3 4 true rfl rfl rfl rfl) <| And.intro (opSX A222_3 4 5 true rfl rfl rfl rfl) <| And.intro (opSX A222_3 5 6 true rfl rfl rfl rfl) <| And.intro (opSX A222_3 6 7 true rfl rfl rfl rfl) <| And.intro (opSX A222_3 7 8 true rfl rfl rfl rfl) <| And.intro (opSX A222_3 8 9 true rfl rfl rfl rfl) <| retK K222_4 rfl) := And.intro (seqK K222_0 K222_1 K222_2 rfl) <| And.intro (regK K222_1 A222_1 rfl) <| And.intro (nilK A222_1 1 rfl) <| And.intro (opS A222_1 0 1 rfl rfl rfl) <| And.intro (seqK K222_2 K222_3 K222_4 rfl) <| And.intro (nilX A222_3 9 rfl) <| And.intro (opSX A222_3 0 1 true rfl rfl rfl rfl) <| And.intro (opSX A222_3 1 2 true rfl rfl rfl rfl) <| And.intro (opSX A222_3 2 3 true rfl rfl rfl rfl) <| And.intro (opSX A222_3 3 4 true rfl rfl rfl rfl) <| And.intro (opSX A222_3 4 5 true rfl rfl rfl rfl) <| And.intro (opSX A222_3 5 6 true rfl rfl rfl rfl) <| And.intro (opSX A222_3 6 7 true rfl rfl rfl rfl) <| And.intro (opSX A222_3 7 8 true rfl rfl rfl rfl) <| And.intro (opSX A222_3 8 9 true rfl rfl rfl rfl) <| retK K222_4 rfl
theorem ty222 : type_of% (And.intro @fa192_0 <| And.intro @ix162 <| And.intro @ld162 <| And.intro @ld9 <| @fi222) := And.intro @fa192_0 <| And.intro @ix162 <| And.intro @ld162 <| And.intro @ld9 <| @fi222

noncomputable def K209_0 : Code := Try.f209.body.getD .skip
noncomputable def K209_1 : Code := lft K209_0
noncomputable def A209_1 : Array Oper := rops K209_1
noncomputable def K209_2 : Code := rgt K209_0
noncomputable def K209_3 : Code := lft K209_2
noncomputable def A209_3 : Array Oper := rops K209_3
noncomputable def K209_4 : Code := rgt K209_2
noncomputable def K209_5 : Code := lft K209_4
noncomputable def K209_6 : Code := lft K209_5
noncomputable def A209_6 : Array Oper := rops K209_6
noncomputable def K209_7 : Code := rgt K209_5
noncomputable def K209_8 : Code := lft K209_7
noncomputable def K209_9 : Code := lft K209_8
noncomputable def K209_10 : Code := lft K209_9
noncomputable def A209_10 : Array Oper := rops K209_10
noncomputable def K209_11 : Code := rgt K209_9
noncomputable def K209_12 : Code := lft K209_11
noncomputable def K209_13 : Code := lft K209_12
noncomputable def K209_14 : Code := rgt K209_12
noncomputable def K209_15 : Code := rgt K209_11
noncomputable def K209_16 : Code := lft K209_15
noncomputable def K209_17 : Code := lft K209_16
noncomputable def K209_18 : Code := lft K209_17
noncomputable def A209_18 : Array Oper := rops K209_18
noncomputable def K209_19 : Code := rgt K209_17
noncomputable def A209_19 : Array Oper := rops K209_19
noncomputable def K209_20 : Code := rgt K209_15
noncomputable def A209_20 : Array Oper := rops K209_20
noncomputable def K209_21 : Code := rgt K209_4
noncomputable def K209_22 : Code := lft K209_21
noncomputable def A209_22 : Array Oper := rops K209_22
noncomputable def K209_23 : Code := rgt K209_21
theorem body209 : Try.f209.body = some K209_0 := by kernel_rfl
theorem D209_19 : DrawK K209_19 A209_19 := drawK rfl (by kernel_rfl)
theorem code209_0 : type_of% (And.intro (seqK K209_0 K209_1 K209_2 rfl) <| And.intro (regK K209_1 A209_1 rfl) <| And.intro (nilK A209_1 1 rfl) <| And.intro (opS A209_1 0 1 rfl rfl rfl) <| And.intro (seqK K209_2 K209_3 K209_4 rfl) <| And.intro (regK K209_3 A209_3 rfl) <| And.intro (nilK A209_3 1 rfl) <| And.intro (opS A209_3 0 1 rfl rfl rfl) <| And.intro (seqK K209_4 K209_5 K209_21 rfl) <| And.intro (seqK K209_5 K209_6 K209_7 rfl) <| And.intro (regK K209_6 A209_6 rfl) <| And.intro (nilK A209_6 3 rfl) <| And.intro (opS A209_6 0 1 rfl rfl rfl) <| And.intro (opS A209_6 1 2 rfl rfl rfl) <| And.intro (opS A209_6 2 3 rfl rfl rfl) <| And.intro (blkK K209_7 K209_8 rfl) <| And.intro (loopK K209_8 K209_9 rfl) <| And.intro (seqK K209_9 K209_10 K209_11 rfl) <| And.intro (regK K209_10 A209_10 rfl) <| And.intro (nilK A209_10 1 rfl) <| And.intro (opS A209_10 0 1 rfl rfl rfl) <| And.intro (seqK K209_11 K209_12 K209_15 rfl) <| And.intro (condK K209_12 K209_13 K209_14 rfl) <| And.intro (skipK K209_13 rfl) <| And.intro (exitK K209_14 rfl) <| And.intro (seqK K209_15 K209_16 K209_20 rfl) <| And.intro (blkK K209_16 K209_17 rfl) <| And.intro (seqK K209_17 K209_18 K209_19 rfl) <| And.intro (regK K209_18 A209_18 rfl) <| And.intro (nilK A209_18 4 rfl) <| And.intro (opS A209_18 0 1 rfl rfl rfl) <| And.intro (opS A209_18 1 2 rfl rfl rfl) <| And.intro (opS A209_18 2 3 rfl rfl rfl) <| And.intro (opN A209_18 3 4 rfl rfl rfl) <| And.intro (nilX A209_19 11 rfl) <| And.intro (opSX A209_19 0 1 true rfl rfl rfl rfl) <| And.intro (opSX A209_19 1 2 true rfl rfl rfl rfl) <| And.intro (opSX A209_19 2 3 true rfl rfl rfl rfl) <| And.intro (opSX A209_19 3 4 true rfl rfl rfl rfl) <| opSX A209_19 4 5 true rfl rfl rfl rfl) := And.intro (seqK K209_0 K209_1 K209_2 rfl) <| And.intro (regK K209_1 A209_1 rfl) <| And.intro (nilK A209_1 1 rfl) <| And.intro (opS A209_1 0 1 rfl rfl rfl) <| And.intro (seqK K209_2 K209_3 K209_4 rfl) <| And.intro (regK K209_3 A209_3 rfl) <| And.intro (nilK A209_3 1 rfl) <| And.intro (opS A209_3 0 1 rfl rfl rfl) <| And.intro (seqK K209_4 K209_5 K209_21 rfl) <| And.intro (seqK K209_5 K209_6 K209_7 rfl) <| And.intro (regK K209_6 A209_6 rfl) <| And.intro (nilK A209_6 3 rfl) <| And.intro (opS A209_6 0 1 rfl rfl rfl) <| And.intro (opS A209_6 1 2 rfl rfl rfl) <| And.intro (opS A209_6 2 3 rfl rfl rfl) <| And.intro (blkK K209_7 K209_8 rfl) <| And.intro (loopK K209_8 K209_9 rfl) <| And.intro (seqK K209_9 K209_10 K209_11 rfl) <| And.intro (regK K209_10 A209_10 rfl) <| And.intro (nilK A209_10 1 rfl) <| And.intro (opS A209_10 0 1 rfl rfl rfl) <| And.intro (seqK K209_11 K209_12 K209_15 rfl) <| And.intro (condK K209_12 K209_13 K209_14 rfl) <| And.intro (skipK K209_13 rfl) <| And.intro (exitK K209_14 rfl) <| And.intro (seqK K209_15 K209_16 K209_20 rfl) <| And.intro (blkK K209_16 K209_17 rfl) <| And.intro (seqK K209_17 K209_18 K209_19 rfl) <| And.intro (regK K209_18 A209_18 rfl) <| And.intro (nilK A209_18 4 rfl) <| And.intro (opS A209_18 0 1 rfl rfl rfl) <| And.intro (opS A209_18 1 2 rfl rfl rfl) <| And.intro (opS A209_18 2 3 rfl rfl rfl) <| And.intro (opN A209_18 3 4 rfl rfl rfl) <| And.intro (nilX A209_19 11 rfl) <| And.intro (opSX A209_19 0 1 true rfl rfl rfl rfl) <| And.intro (opSX A209_19 1 2 true rfl rfl rfl rfl) <| And.intro (opSX A209_19 2 3 true rfl rfl rfl rfl) <| And.intro (opSX A209_19 3 4 true rfl rfl rfl rfl) <| opSX A209_19 4 5 true rfl rfl rfl rfl
theorem code209_1 : type_of% (And.intro (opSX A209_19 5 6 true rfl rfl rfl rfl) <| And.intro (opSX A209_19 6 7 false rfl rfl rfl rfl) <| And.intro (opSX A209_19 7 8 true rfl rfl rfl rfl) <| And.intro (opSX A209_19 8 9 false rfl rfl rfl rfl) <| And.intro (opSX A209_19 9 10 false rfl rfl rfl rfl) <| And.intro (opSX A209_19 10 11 true rfl rfl rfl rfl) <| And.intro (regK K209_20 A209_20 rfl) <| And.intro (nilK A209_20 2 rfl) <| And.intro (opS A209_20 0 1 rfl rfl rfl) <| And.intro (opS A209_20 1 2 rfl rfl rfl) <| And.intro (seqK K209_21 K209_22 K209_23 rfl) <| And.intro (regK K209_22 A209_22 rfl) <| And.intro (nilK A209_22 2 rfl) <| And.intro (opS A209_22 0 1 rfl rfl rfl) <| And.intro (opS A209_22 1 2 rfl rfl rfl) <| retK K209_23 rfl) := And.intro (opSX A209_19 5 6 true rfl rfl rfl rfl) <| And.intro (opSX A209_19 6 7 false rfl rfl rfl rfl) <| And.intro (opSX A209_19 7 8 true rfl rfl rfl rfl) <| And.intro (opSX A209_19 8 9 false rfl rfl rfl rfl) <| And.intro (opSX A209_19 9 10 false rfl rfl rfl rfl) <| And.intro (opSX A209_19 10 11 true rfl rfl rfl rfl) <| And.intro (regK K209_20 A209_20 rfl) <| And.intro (nilK A209_20 2 rfl) <| And.intro (opS A209_20 0 1 rfl rfl rfl) <| And.intro (opS A209_20 1 2 rfl rfl rfl) <| And.intro (seqK K209_21 K209_22 K209_23 rfl) <| And.intro (regK K209_22 A209_22 rfl) <| And.intro (nilK A209_22 2 rfl) <| And.intro (opS A209_22 0 1 rfl rfl rfl) <| And.intro (opS A209_22 1 2 rfl rfl rfl) <| retK K209_23 rfl
theorem ty209 : type_of% (And.intro @al192 <| And.intro @bs162 <| And.intro @fa192_0 <| And.intro @fa192_1 <| And.intro @ix162 <| And.intro @ld192 <| And.intro @ld36 <| And.intro @ld9 <| And.intro @ln162 <| @fi209) := And.intro @al192 <| And.intro @bs162 <| And.intro @fa192_0 <| And.intro @fa192_1 <| And.intro @ix162 <| And.intro @ld192 <| And.intro @ld36 <| And.intro @ld9 <| And.intro @ln162 <| @fi209

noncomputable def K173_0 : Code := Try.f173.body.getD .skip
noncomputable def K173_1 : Code := lft K173_0
noncomputable def A173_1 : Array Oper := rops K173_1
noncomputable def K173_2 : Code := rgt K173_0
noncomputable def K173_3 : Code := lft K173_2
noncomputable def K173_4 : Code := lft K173_3
noncomputable def A173_4 : Array Oper := rops K173_4
noncomputable def K173_5 : Code := rgt K173_3
noncomputable def K173_6 : Code := lft K173_5
noncomputable def K173_7 : Code := lft K173_6
noncomputable def A173_7 : Array Oper := rops K173_7
noncomputable def K173_8 : Code := rgt K173_6
noncomputable def K173_9 : Code := rgt K173_5
noncomputable def K173_10 : Code := rgt K173_2
noncomputable def K173_11 : Code := lft K173_10
noncomputable def A173_11 : Array Oper := rops K173_11
noncomputable def K173_12 : Code := rgt K173_10
noncomputable def K173_13 : Code := lft K173_12
noncomputable def A173_13 : Array Oper := rops K173_13
noncomputable def K173_14 : Code := rgt K173_12
noncomputable def K173_15 : Code := lft K173_14
noncomputable def K173_16 : Code := lft K173_15
noncomputable def K173_17 : Code := lft K173_16
noncomputable def A173_17 : Array Oper := rops K173_17
noncomputable def K173_18 : Code := rgt K173_16
noncomputable def K173_19 : Code := lft K173_18
noncomputable def K173_20 : Code := lft K173_19
noncomputable def A173_20 : Array Oper := rops K173_20
noncomputable def K173_21 : Code := rgt K173_19
noncomputable def K173_22 : Code := rgt K173_18
noncomputable def K173_23 : Code := lft K173_22
noncomputable def A173_23 : Array Oper := rops K173_23
noncomputable def K173_24 : Code := rgt K173_22
noncomputable def K173_25 : Code := lft K173_24
noncomputable def K173_26 : Code := lft K173_25
noncomputable def A173_26 : Array Oper := rops K173_26
noncomputable def K173_27 : Code := rgt K173_25
noncomputable def K173_28 : Code := rgt K173_24
noncomputable def K173_29 : Code := lft K173_28
noncomputable def A173_29 : Array Oper := rops K173_29
noncomputable def K173_30 : Code := rgt K173_28
noncomputable def K173_31 : Code := lft K173_30
noncomputable def K173_32 : Code := lft K173_31
noncomputable def A173_32 : Array Oper := rops K173_32
noncomputable def K173_33 : Code := rgt K173_31
noncomputable def K173_34 : Code := rgt K173_30
noncomputable def K173_35 : Code := rgt K173_14
noncomputable def K173_36 : Code := lft K173_35
noncomputable def A173_36 : Array Oper := rops K173_36
noncomputable def K173_37 : Code := rgt K173_35
theorem body173 : Try.f173.body = some K173_0 := by kernel_rfl
theorem D173_36 : DrawK K173_36 A173_36 := drawK rfl (by kernel_rfl)
theorem code173_0 : type_of% (And.intro (seqK K173_0 K173_1 K173_2 rfl) <| And.intro (regK K173_1 A173_1 rfl) <| And.intro (nilK A173_1 3 rfl) <| And.intro (opS A173_1 0 1 rfl rfl rfl) <| And.intro (opS A173_1 1 2 rfl rfl rfl) <| And.intro (opS A173_1 2 3 rfl rfl rfl) <| And.intro (seqK K173_2 K173_3 K173_10 rfl) <| And.intro (seqK K173_3 K173_4 K173_5 rfl) <| And.intro (regK K173_4 A173_4 rfl) <| And.intro (nilK A173_4 3 rfl) <| And.intro (opS A173_4 0 1 rfl rfl rfl) <| And.intro (opS A173_4 1 2 rfl rfl rfl) <| And.intro (opS A173_4 2 3 rfl rfl rfl) <| And.intro (condK K173_5 K173_6 K173_9 rfl) <| And.intro (seqK K173_6 K173_7 K173_8 rfl) <| And.intro (regK K173_7 A173_7 rfl) <| And.intro (nilK A173_7 2 rfl) <| And.intro (opS A173_7 0 1 rfl rfl rfl) <| And.intro (opS A173_7 1 2 rfl rfl rfl) <| And.intro (retK K173_8 rfl) <| And.intro (skipK K173_9 rfl) <| And.intro (seqK K173_10 K173_11 K173_12 rfl) <| And.intro (regK K173_11 A173_11 rfl) <| And.intro (nilK A173_11 9 rfl) <| And.intro (opS A173_11 0 1 rfl rfl rfl) <| And.intro (opS A173_11 1 2 rfl rfl rfl) <| And.intro (opS A173_11 2 3 rfl rfl rfl) <| And.intro (opS A173_11 3 4 rfl rfl rfl) <| And.intro (opS A173_11 4 5 rfl rfl rfl) <| And.intro (opS A173_11 5 6 rfl rfl rfl) <| And.intro (opS A173_11 6 7 rfl rfl rfl) <| And.intro (opN A173_11 7 8 rfl rfl rfl) <| And.intro (opS A173_11 8 9 rfl rfl rfl) <| And.intro (seqK K173_12 K173_13 K173_14 rfl) <| And.intro (regK K173_13 A173_13 rfl) <| And.intro (nilK A173_13 7 rfl) <| And.intro (opS A173_13 0 1 rfl rfl rfl) <| And.intro (opS A173_13 1 2 rfl rfl rfl) <| And.intro (opS A173_13 2 3 rfl rfl rfl) <| opS A173_13 3 4 rfl rfl rfl) := And.intro (seqK K173_0 K173_1 K173_2 rfl) <| And.intro (regK K173_1 A173_1 rfl) <| And.intro (nilK A173_1 3 rfl) <| And.intro (opS A173_1 0 1 rfl rfl rfl) <| And.intro (opS A173_1 1 2 rfl rfl rfl) <| And.intro (opS A173_1 2 3 rfl rfl rfl) <| And.intro (seqK K173_2 K173_3 K173_10 rfl) <| And.intro (seqK K173_3 K173_4 K173_5 rfl) <| And.intro (regK K173_4 A173_4 rfl) <| And.intro (nilK A173_4 3 rfl) <| And.intro (opS A173_4 0 1 rfl rfl rfl) <| And.intro (opS A173_4 1 2 rfl rfl rfl) <| And.intro (opS A173_4 2 3 rfl rfl rfl) <| And.intro (condK K173_5 K173_6 K173_9 rfl) <| And.intro (seqK K173_6 K173_7 K173_8 rfl) <| And.intro (regK K173_7 A173_7 rfl) <| And.intro (nilK A173_7 2 rfl) <| And.intro (opS A173_7 0 1 rfl rfl rfl) <| And.intro (opS A173_7 1 2 rfl rfl rfl) <| And.intro (retK K173_8 rfl) <| And.intro (skipK K173_9 rfl) <| And.intro (seqK K173_10 K173_11 K173_12 rfl) <| And.intro (regK K173_11 A173_11 rfl) <| And.intro (nilK A173_11 9 rfl) <| And.intro (opS A173_11 0 1 rfl rfl rfl) <| And.intro (opS A173_11 1 2 rfl rfl rfl) <| And.intro (opS A173_11 2 3 rfl rfl rfl) <| And.intro (opS A173_11 3 4 rfl rfl rfl) <| And.intro (opS A173_11 4 5 rfl rfl rfl) <| And.intro (opS A173_11 5 6 rfl rfl rfl) <| And.intro (opS A173_11 6 7 rfl rfl rfl) <| And.intro (opN A173_11 7 8 rfl rfl rfl) <| And.intro (opS A173_11 8 9 rfl rfl rfl) <| And.intro (seqK K173_12 K173_13 K173_14 rfl) <| And.intro (regK K173_13 A173_13 rfl) <| And.intro (nilK A173_13 7 rfl) <| And.intro (opS A173_13 0 1 rfl rfl rfl) <| And.intro (opS A173_13 1 2 rfl rfl rfl) <| And.intro (opS A173_13 2 3 rfl rfl rfl) <| opS A173_13 3 4 rfl rfl rfl
theorem code173_1 : type_of% (And.intro (opS A173_13 4 5 rfl rfl rfl) <| And.intro (opS A173_13 5 6 rfl rfl rfl) <| And.intro (opN A173_13 6 7 rfl rfl rfl) <| And.intro (seqK K173_14 K173_15 K173_35 rfl) <| And.intro (blkK K173_15 K173_16 rfl) <| And.intro (seqK K173_16 K173_17 K173_18 rfl) <| And.intro (regK K173_17 A173_17 rfl) <| And.intro (nilK A173_17 8 rfl) <| And.intro (opS A173_17 0 1 rfl rfl rfl) <| And.intro (opS A173_17 1 2 rfl rfl rfl) <| And.intro (opS A173_17 2 3 rfl rfl rfl) <| And.intro (opSG A173_17 3 4 rfl rfl rfl rfl) <| And.intro (opSG A173_17 4 5 rfl rfl rfl rfl) <| And.intro (opSG A173_17 5 6 rfl rfl rfl rfl) <| And.intro (opS A173_17 6 7 rfl rfl rfl) <| And.intro (opS A173_17 7 8 rfl rfl rfl) <| And.intro (condK K173_18 K173_19 K173_22 rfl) <| And.intro (seqK K173_19 K173_20 K173_21 rfl) <| And.intro (regK K173_20 A173_20 rfl) <| And.intro (nilK A173_20 2 rfl) <| And.intro (opS A173_20 0 1 rfl rfl rfl) <| And.intro (opS A173_20 1 2 rfl rfl rfl) <| And.intro (retK K173_21 rfl) <| And.intro (seqK K173_22 K173_23 K173_24 rfl) <| And.intro (regK K173_23 A173_23 rfl) <| And.intro (nilK A173_23 2 rfl) <| And.intro (opS A173_23 0 1 rfl rfl rfl) <| And.intro (opS A173_23 1 2 rfl rfl rfl) <| And.intro (condK K173_24 K173_25 K173_28 rfl) <| And.intro (seqK K173_25 K173_26 K173_27 rfl) <| And.intro (regK K173_26 A173_26 rfl) <| And.intro (nilK A173_26 2 rfl) <| And.intro (opS A173_26 0 1 rfl rfl rfl) <| And.intro (opS A173_26 1 2 rfl rfl rfl) <| And.intro (retK K173_27 rfl) <| And.intro (seqK K173_28 K173_29 K173_30 rfl) <| And.intro (regK K173_29 A173_29 rfl) <| And.intro (nilK A173_29 3 rfl) <| And.intro (opS A173_29 0 1 rfl rfl rfl) <| opS A173_29 1 2 rfl rfl rfl) := And.intro (opS A173_13 4 5 rfl rfl rfl) <| And.intro (opS A173_13 5 6 rfl rfl rfl) <| And.intro (opN A173_13 6 7 rfl rfl rfl) <| And.intro (seqK K173_14 K173_15 K173_35 rfl) <| And.intro (blkK K173_15 K173_16 rfl) <| And.intro (seqK K173_16 K173_17 K173_18 rfl) <| And.intro (regK K173_17 A173_17 rfl) <| And.intro (nilK A173_17 8 rfl) <| And.intro (opS A173_17 0 1 rfl rfl rfl) <| And.intro (opS A173_17 1 2 rfl rfl rfl) <| And.intro (opS A173_17 2 3 rfl rfl rfl) <| And.intro (opSG A173_17 3 4 rfl rfl rfl rfl) <| And.intro (opSG A173_17 4 5 rfl rfl rfl rfl) <| And.intro (opSG A173_17 5 6 rfl rfl rfl rfl) <| And.intro (opS A173_17 6 7 rfl rfl rfl) <| And.intro (opS A173_17 7 8 rfl rfl rfl) <| And.intro (condK K173_18 K173_19 K173_22 rfl) <| And.intro (seqK K173_19 K173_20 K173_21 rfl) <| And.intro (regK K173_20 A173_20 rfl) <| And.intro (nilK A173_20 2 rfl) <| And.intro (opS A173_20 0 1 rfl rfl rfl) <| And.intro (opS A173_20 1 2 rfl rfl rfl) <| And.intro (retK K173_21 rfl) <| And.intro (seqK K173_22 K173_23 K173_24 rfl) <| And.intro (regK K173_23 A173_23 rfl) <| And.intro (nilK A173_23 2 rfl) <| And.intro (opS A173_23 0 1 rfl rfl rfl) <| And.intro (opS A173_23 1 2 rfl rfl rfl) <| And.intro (condK K173_24 K173_25 K173_28 rfl) <| And.intro (seqK K173_25 K173_26 K173_27 rfl) <| And.intro (regK K173_26 A173_26 rfl) <| And.intro (nilK A173_26 2 rfl) <| And.intro (opS A173_26 0 1 rfl rfl rfl) <| And.intro (opS A173_26 1 2 rfl rfl rfl) <| And.intro (retK K173_27 rfl) <| And.intro (seqK K173_28 K173_29 K173_30 rfl) <| And.intro (regK K173_29 A173_29 rfl) <| And.intro (nilK A173_29 3 rfl) <| And.intro (opS A173_29 0 1 rfl rfl rfl) <| opS A173_29 1 2 rfl rfl rfl
theorem code173_2 : type_of% (And.intro (opS A173_29 2 3 rfl rfl rfl) <| And.intro (condK K173_30 K173_31 K173_34 rfl) <| And.intro (seqK K173_31 K173_32 K173_33 rfl) <| And.intro (regK K173_32 A173_32 rfl) <| And.intro (nilK A173_32 2 rfl) <| And.intro (opS A173_32 0 1 rfl rfl rfl) <| And.intro (opS A173_32 1 2 rfl rfl rfl) <| And.intro (retK K173_33 rfl) <| And.intro (skipK K173_34 rfl) <| And.intro (seqK K173_35 K173_36 K173_37 rfl) <| And.intro (nilX A173_36 8 rfl) <| And.intro (opSX A173_36 0 1 true rfl rfl rfl rfl) <| And.intro (opSX A173_36 1 2 true rfl rfl rfl rfl) <| And.intro (opSX A173_36 2 3 false rfl rfl rfl rfl) <| And.intro (opSX A173_36 3 4 false rfl rfl rfl rfl) <| And.intro (opSX A173_36 4 5 true rfl rfl rfl rfl) <| And.intro (opSX A173_36 5 6 false rfl rfl rfl rfl) <| And.intro (opSX A173_36 6 7 true rfl rfl rfl rfl) <| And.intro (opSX A173_36 7 8 true rfl rfl rfl rfl) <| retK K173_37 rfl) := And.intro (opS A173_29 2 3 rfl rfl rfl) <| And.intro (condK K173_30 K173_31 K173_34 rfl) <| And.intro (seqK K173_31 K173_32 K173_33 rfl) <| And.intro (regK K173_32 A173_32 rfl) <| And.intro (nilK A173_32 2 rfl) <| And.intro (opS A173_32 0 1 rfl rfl rfl) <| And.intro (opS A173_32 1 2 rfl rfl rfl) <| And.intro (retK K173_33 rfl) <| And.intro (skipK K173_34 rfl) <| And.intro (seqK K173_35 K173_36 K173_37 rfl) <| And.intro (nilX A173_36 8 rfl) <| And.intro (opSX A173_36 0 1 true rfl rfl rfl rfl) <| And.intro (opSX A173_36 1 2 true rfl rfl rfl rfl) <| And.intro (opSX A173_36 2 3 false rfl rfl rfl rfl) <| And.intro (opSX A173_36 3 4 false rfl rfl rfl rfl) <| And.intro (opSX A173_36 4 5 true rfl rfl rfl rfl) <| And.intro (opSX A173_36 5 6 false rfl rfl rfl rfl) <| And.intro (opSX A173_36 6 7 true rfl rfl rfl rfl) <| And.intro (opSX A173_36 7 8 true rfl rfl rfl rfl) <| retK K173_37 rfl
theorem ty173 : type_of% (And.intro @al192 <| And.intro @al36 <| And.intro @bs162 <| And.intro @fa36_1 <| And.intro @ld192 <| And.intro @ld36 <| And.intro @ld9 <| @fi173) := And.intro @al192 <| And.intro @al36 <| And.intro @bs162 <| And.intro @fa36_1 <| And.intro @ld192 <| And.intro @ld36 <| And.intro @ld9 <| @fi173

noncomputable def K170_0 : Code := Try.f170.body.getD .skip
noncomputable def K170_1 : Code := lft K170_0
noncomputable def A170_1 : Array Oper := rops K170_1
noncomputable def K170_2 : Code := rgt K170_0
noncomputable def K170_3 : Code := lft K170_2
noncomputable def A170_3 : Array Oper := rops K170_3
noncomputable def K170_4 : Code := rgt K170_2
theorem body170 : Try.f170.body = some K170_0 := by kernel_rfl
theorem code170_0 : type_of% (And.intro (seqK K170_0 K170_1 K170_2 rfl) <| And.intro (regK K170_1 A170_1 rfl) <| And.intro (nilK A170_1 3 rfl) <| And.intro (opS A170_1 0 1 rfl rfl rfl) <| And.intro (opS A170_1 1 2 rfl rfl rfl) <| And.intro (opS A170_1 2 3 rfl rfl rfl) <| And.intro (seqK K170_2 K170_3 K170_4 rfl) <| And.intro (regK K170_3 A170_3 rfl) <| And.intro (nilK A170_3 30 rfl) <| And.intro (opS A170_3 0 1 rfl rfl rfl) <| And.intro (opS A170_3 1 2 rfl rfl rfl) <| And.intro (opS A170_3 2 3 rfl rfl rfl) <| And.intro (opS A170_3 3 4 rfl rfl rfl) <| And.intro (opS A170_3 4 5 rfl rfl rfl) <| And.intro (opS A170_3 5 6 rfl rfl rfl) <| And.intro (opSG A170_3 6 7 rfl rfl rfl rfl) <| And.intro (opSG A170_3 7 8 rfl rfl rfl rfl) <| And.intro (opSG A170_3 8 9 rfl rfl rfl rfl) <| And.intro (opSG A170_3 9 10 rfl rfl rfl rfl) <| And.intro (opSG A170_3 10 11 rfl rfl rfl rfl) <| And.intro (opS A170_3 11 12 rfl rfl rfl) <| And.intro (opS A170_3 12 13 rfl rfl rfl) <| And.intro (opSG A170_3 13 14 rfl rfl rfl rfl) <| And.intro (opSG A170_3 14 15 rfl rfl rfl rfl) <| And.intro (opSG A170_3 15 16 rfl rfl rfl rfl) <| And.intro (opSG A170_3 16 17 rfl rfl rfl rfl) <| And.intro (opSG A170_3 17 18 rfl rfl rfl rfl) <| And.intro (opS A170_3 18 19 rfl rfl rfl) <| And.intro (opS A170_3 19 20 rfl rfl rfl) <| And.intro (opSG A170_3 20 21 rfl rfl rfl rfl) <| And.intro (opSG A170_3 21 22 rfl rfl rfl rfl) <| And.intro (opSG A170_3 22 23 rfl rfl rfl rfl) <| And.intro (opS A170_3 23 24 rfl rfl rfl) <| And.intro (opS A170_3 24 25 rfl rfl rfl) <| And.intro (opSG A170_3 25 26 rfl rfl rfl rfl) <| And.intro (opSG A170_3 26 27 rfl rfl rfl rfl) <| And.intro (opSG A170_3 27 28 rfl rfl rfl rfl) <| And.intro (opS A170_3 28 29 rfl rfl rfl) <| And.intro (opS A170_3 29 30 rfl rfl rfl) <| retK K170_4 rfl) := And.intro (seqK K170_0 K170_1 K170_2 rfl) <| And.intro (regK K170_1 A170_1 rfl) <| And.intro (nilK A170_1 3 rfl) <| And.intro (opS A170_1 0 1 rfl rfl rfl) <| And.intro (opS A170_1 1 2 rfl rfl rfl) <| And.intro (opS A170_1 2 3 rfl rfl rfl) <| And.intro (seqK K170_2 K170_3 K170_4 rfl) <| And.intro (regK K170_3 A170_3 rfl) <| And.intro (nilK A170_3 30 rfl) <| And.intro (opS A170_3 0 1 rfl rfl rfl) <| And.intro (opS A170_3 1 2 rfl rfl rfl) <| And.intro (opS A170_3 2 3 rfl rfl rfl) <| And.intro (opS A170_3 3 4 rfl rfl rfl) <| And.intro (opS A170_3 4 5 rfl rfl rfl) <| And.intro (opS A170_3 5 6 rfl rfl rfl) <| And.intro (opSG A170_3 6 7 rfl rfl rfl rfl) <| And.intro (opSG A170_3 7 8 rfl rfl rfl rfl) <| And.intro (opSG A170_3 8 9 rfl rfl rfl rfl) <| And.intro (opSG A170_3 9 10 rfl rfl rfl rfl) <| And.intro (opSG A170_3 10 11 rfl rfl rfl rfl) <| And.intro (opS A170_3 11 12 rfl rfl rfl) <| And.intro (opS A170_3 12 13 rfl rfl rfl) <| And.intro (opSG A170_3 13 14 rfl rfl rfl rfl) <| And.intro (opSG A170_3 14 15 rfl rfl rfl rfl) <| And.intro (opSG A170_3 15 16 rfl rfl rfl rfl) <| And.intro (opSG A170_3 16 17 rfl rfl rfl rfl) <| And.intro (opSG A170_3 17 18 rfl rfl rfl rfl) <| And.intro (opS A170_3 18 19 rfl rfl rfl) <| And.intro (opS A170_3 19 20 rfl rfl rfl) <| And.intro (opSG A170_3 20 21 rfl rfl rfl rfl) <| And.intro (opSG A170_3 21 22 rfl rfl rfl rfl) <| And.intro (opSG A170_3 22 23 rfl rfl rfl rfl) <| And.intro (opS A170_3 23 24 rfl rfl rfl) <| And.intro (opS A170_3 24 25 rfl rfl rfl) <| And.intro (opSG A170_3 25 26 rfl rfl rfl rfl) <| And.intro (opSG A170_3 26 27 rfl rfl rfl rfl) <| And.intro (opSG A170_3 27 28 rfl rfl rfl rfl) <| And.intro (opS A170_3 28 29 rfl rfl rfl) <| And.intro (opS A170_3 29 30 rfl rfl rfl) <| retK K170_4 rfl
theorem ty170 : type_of% (And.intro @fa39_0 <| And.intro @fa39_1 <| And.intro @fa39_2 <| And.intro @ld3 <| And.intro @ld9 <| @fi170) := And.intro @fa39_0 <| And.intro @fa39_1 <| And.intro @fa39_2 <| And.intro @ld3 <| And.intro @ld9 <| @fi170

noncomputable def K140_0 : Code := Try.f140.body.getD .skip
noncomputable def K140_1 : Code := lft K140_0
noncomputable def A140_1 : Array Oper := rops K140_1
noncomputable def K140_2 : Code := rgt K140_0
noncomputable def K140_3 : Code := lft K140_2
noncomputable def K140_4 : Code := lft K140_3
noncomputable def K140_5 : Code := lft K140_4
noncomputable def A140_5 : Array Oper := rops K140_5
noncomputable def K140_6 : Code := rgt K140_4
noncomputable def K140_7 : Code := lft K140_6
noncomputable def K140_8 : Code := lft K140_7
noncomputable def A140_8 : Array Oper := rops K140_8
noncomputable def K140_9 : Code := rgt K140_7
noncomputable def K140_10 : Code := rgt K140_6
noncomputable def K140_11 : Code := rgt K140_3
noncomputable def K140_12 : Code := lft K140_11
noncomputable def K140_13 : Code := lft K140_12
noncomputable def A140_13 : Array Oper := rops K140_13
noncomputable def K140_14 : Code := rgt K140_12
noncomputable def K140_15 : Code := lft K140_14
noncomputable def K140_16 : Code := lft K140_15
noncomputable def K140_17 : Code := lft K140_16
noncomputable def A140_17 : Array Oper := rops K140_17
noncomputable def K140_18 : Code := rgt K140_16
noncomputable def K140_19 : Code := lft K140_18
noncomputable def K140_20 : Code := lft K140_19
noncomputable def K140_21 : Code := rgt K140_19
noncomputable def K140_22 : Code := rgt K140_18
noncomputable def K140_23 : Code := lft K140_22
noncomputable def K140_24 : Code := lft K140_23
noncomputable def K140_25 : Code := lft K140_24
noncomputable def A140_25 : Array Oper := rops K140_25
noncomputable def K140_26 : Code := rgt K140_24
noncomputable def K140_27 : Code := lft K140_26
noncomputable def A140_27 : Array Oper := rops K140_27
noncomputable def K140_28 : Code := rgt K140_26
noncomputable def K140_29 : Code := lft K140_28
noncomputable def A140_29 : Array Oper := rops K140_29
noncomputable def K140_30 : Code := rgt K140_28
noncomputable def K140_31 : Code := lft K140_30
noncomputable def K140_32 : Code := lft K140_31
noncomputable def A140_32 : Array Oper := rops K140_32
noncomputable def K140_33 : Code := rgt K140_31
noncomputable def K140_34 : Code := rgt K140_30
noncomputable def K140_35 : Code := rgt K140_22
noncomputable def A140_35 : Array Oper := rops K140_35
noncomputable def K140_36 : Code := rgt K140_11
noncomputable def K140_37 : Code := lft K140_36
noncomputable def A140_37 : Array Oper := rops K140_37
noncomputable def K140_38 : Code := rgt K140_36
noncomputable def K140_39 : Code := lft K140_38
noncomputable def A140_39 : Array Oper := rops K140_39
noncomputable def K140_40 : Code := rgt K140_38
noncomputable def K140_41 : Code := lft K140_40
noncomputable def K140_42 : Code := rgt K140_40
noncomputable def K140_43 : Code := lft K140_42
noncomputable def K140_44 : Code := lft K140_43
noncomputable def A140_44 : Array Oper := rops K140_44
noncomputable def K140_45 : Code := rgt K140_43
noncomputable def K140_46 : Code := lft K140_45
noncomputable def K140_47 : Code := lft K140_46
noncomputable def K140_48 : Code := lft K140_47
noncomputable def A140_48 : Array Oper := rops K140_48
noncomputable def K140_49 : Code := rgt K140_47
noncomputable def K140_50 : Code := lft K140_49
noncomputable def K140_51 : Code := lft K140_50
noncomputable def K140_52 : Code := rgt K140_50
noncomputable def K140_53 : Code := rgt K140_49
noncomputable def K140_54 : Code := lft K140_53
noncomputable def K140_55 : Code := lft K140_54
noncomputable def K140_56 : Code := lft K140_55
noncomputable def A140_56 : Array Oper := rops K140_56
noncomputable def K140_57 : Code := rgt K140_55
noncomputable def K140_58 : Code := lft K140_57
noncomputable def K140_59 : Code := lft K140_58
noncomputable def A140_59 : Array Oper := rops K140_59
noncomputable def K140_60 : Code := rgt K140_58
noncomputable def K140_61 : Code := lft K140_60
noncomputable def K140_62 : Code := rgt K140_60
noncomputable def K140_63 : Code := rgt K140_57
noncomputable def K140_64 : Code := lft K140_63
noncomputable def A140_64 : Array Oper := rops K140_64
noncomputable def K140_65 : Code := rgt K140_63
noncomputable def K140_66 : Code := lft K140_65
noncomputable def A140_66 : Array Oper := rops K140_66
noncomputable def K140_67 : Code := rgt K140_65
noncomputable def K140_68 : Code := lft K140_67
noncomputable def K140_69 : Code := lft K140_68
noncomputable def K140_70 : Code := lft K140_69
noncomputable def A140_70 : Array Oper := rops K140_70
noncomputable def K140_71 : Code := rgt K140_69
noncomputable def K140_72 : Code := lft K140_71
noncomputable def A140_72 : Array Oper := rops K140_72
noncomputable def K140_73 : Code := rgt K140_71
noncomputable def K140_74 : Code := lft K140_73
noncomputable def A140_74 : Array Oper := rops K140_74
noncomputable def K140_75 : Code := rgt K140_73
noncomputable def K140_76 : Code := lft K140_75
noncomputable def A140_76 : Array Oper := rops K140_76
noncomputable def K140_77 : Code := rgt K140_75
noncomputable def K140_78 : Code := lft K140_77
noncomputable def A140_78 : Array Oper := rops K140_78
noncomputable def K140_79 : Code := rgt K140_77
noncomputable def A140_79 : Array Oper := rops K140_79
noncomputable def K140_80 : Code := rgt K140_67
noncomputable def K140_81 : Code := lft K140_80
noncomputable def A140_81 : Array Oper := rops K140_81
noncomputable def K140_82 : Code := rgt K140_80
noncomputable def K140_83 : Code := lft K140_82
noncomputable def K140_84 : Code := rgt K140_82
noncomputable def K140_85 : Code := rgt K140_53
noncomputable def A140_85 : Array Oper := rops K140_85
noncomputable def K140_86 : Code := rgt K140_42
noncomputable def K140_87 : Code := lft K140_86
noncomputable def K140_88 : Code := lft K140_87
noncomputable def A140_88 : Array Oper := rops K140_88
noncomputable def K140_89 : Code := rgt K140_87
noncomputable def K140_90 : Code := lft K140_89
noncomputable def K140_91 : Code := lft K140_90
noncomputable def A140_91 : Array Oper := rops K140_91
noncomputable def K140_92 : Code := rgt K140_90
noncomputable def K140_93 : Code := rgt K140_89
noncomputable def K140_94 : Code := rgt K140_86
noncomputable def K140_95 : Code := lft K140_94
noncomputable def A140_95 : Array Oper := rops K140_95
noncomputable def K140_96 : Code := rgt K140_94
theorem body140 : Try.f140.body = some K140_0 := by kernel_rfl
theorem code140_0 : type_of% (And.intro (seqK K140_0 K140_1 K140_2 rfl) <| And.intro (regK K140_1 A140_1 rfl) <| And.intro (nilK A140_1 4 rfl) <| And.intro (opS A140_1 0 1 rfl rfl rfl) <| And.intro (opS A140_1 1 2 rfl rfl rfl) <| And.intro (opS A140_1 2 3 rfl rfl rfl) <| And.intro (opS A140_1 3 4 rfl rfl rfl) <| And.intro (scopeK K140_2 K140_3 rfl) <| And.intro (seqK K140_3 K140_4 K140_11 rfl) <| And.intro (seqK K140_4 K140_5 K140_6 rfl) <| And.intro (regK K140_5 A140_5 rfl) <| And.intro (nilK A140_5 14 rfl) <| And.intro (opS A140_5 0 1 rfl rfl rfl) <| And.intro (opS A140_5 1 2 rfl rfl rfl) <| And.intro (opS A140_5 2 3 rfl rfl rfl) <| And.intro (opS A140_5 3 4 rfl rfl rfl) <| And.intro (opSG A140_5 4 5 rfl rfl rfl rfl) <| And.intro (opSG A140_5 5 6 rfl rfl rfl rfl) <| And.intro (opSG A140_5 6 7 rfl rfl rfl rfl) <| And.intro (opSG A140_5 7 8 rfl rfl rfl rfl) <| And.intro (opS A140_5 8 9 rfl rfl rfl) <| And.intro (opS A140_5 9 10 rfl rfl rfl) <| And.intro (opSG A140_5 10 11 rfl rfl rfl rfl) <| And.intro (opSG A140_5 11 12 rfl rfl rfl rfl) <| And.intro (opSG A140_5 12 13 rfl rfl rfl rfl) <| And.intro (opS A140_5 13 14 rfl rfl rfl) <| And.intro (condK K140_6 K140_7 K140_10 rfl) <| And.intro (seqK K140_7 K140_8 K140_9 rfl) <| And.intro (regK K140_8 A140_8 rfl) <| And.intro (nilK A140_8 2 rfl) <| And.intro (opS A140_8 0 1 rfl rfl rfl) <| And.intro (opS A140_8 1 2 rfl rfl rfl) <| And.intro (retK K140_9 rfl) <| And.intro (skipK K140_10 rfl) <| And.intro (seqK K140_11 K140_12 K140_36 rfl) <| And.intro (seqK K140_12 K140_13 K140_14 rfl) <| And.intro (regK K140_13 A140_13 rfl) <| And.intro (nilK A140_13 3 rfl) <| And.intro (opS A140_13 0 1 rfl rfl rfl) <| opS A140_13 1 2 rfl rfl rfl) := And.intro (seqK K140_0 K140_1 K140_2 rfl) <| And.intro (regK K140_1 A140_1 rfl) <| And.intro (nilK A140_1 4 rfl) <| And.intro (opS A140_1 0 1 rfl rfl rfl) <| And.intro (opS A140_1 1 2 rfl rfl rfl) <| And.intro (opS A140_1 2 3 rfl rfl rfl) <| And.intro (opS A140_1 3 4 rfl rfl rfl) <| And.intro (scopeK K140_2 K140_3 rfl) <| And.intro (seqK K140_3 K140_4 K140_11 rfl) <| And.intro (seqK K140_4 K140_5 K140_6 rfl) <| And.intro (regK K140_5 A140_5 rfl) <| And.intro (nilK A140_5 14 rfl) <| And.intro (opS A140_5 0 1 rfl rfl rfl) <| And.intro (opS A140_5 1 2 rfl rfl rfl) <| And.intro (opS A140_5 2 3 rfl rfl rfl) <| And.intro (opS A140_5 3 4 rfl rfl rfl) <| And.intro (opSG A140_5 4 5 rfl rfl rfl rfl) <| And.intro (opSG A140_5 5 6 rfl rfl rfl rfl) <| And.intro (opSG A140_5 6 7 rfl rfl rfl rfl) <| And.intro (opSG A140_5 7 8 rfl rfl rfl rfl) <| And.intro (opS A140_5 8 9 rfl rfl rfl) <| And.intro (opS A140_5 9 10 rfl rfl rfl) <| And.intro (opSG A140_5 10 11 rfl rfl rfl rfl) <| And.intro (opSG A140_5 11 12 rfl rfl rfl rfl) <| And.intro (opSG A140_5 12 13 rfl rfl rfl rfl) <| And.intro (opS A140_5 13 14 rfl rfl rfl) <| And.intro (condK K140_6 K140_7 K140_10 rfl) <| And.intro (seqK K140_7 K140_8 K140_9 rfl) <| And.intro (regK K140_8 A140_8 rfl) <| And.intro (nilK A140_8 2 rfl) <| And.intro (opS A140_8 0 1 rfl rfl rfl) <| And.intro (opS A140_8 1 2 rfl rfl rfl) <| And.intro (retK K140_9 rfl) <| And.intro (skipK K140_10 rfl) <| And.intro (seqK K140_11 K140_12 K140_36 rfl) <| And.intro (seqK K140_12 K140_13 K140_14 rfl) <| And.intro (regK K140_13 A140_13 rfl) <| And.intro (nilK A140_13 3 rfl) <| And.intro (opS A140_13 0 1 rfl rfl rfl) <| opS A140_13 1 2 rfl rfl rfl
theorem code140_1 : type_of% (And.intro (opS A140_13 2 3 rfl rfl rfl) <| And.intro (blkK K140_14 K140_15 rfl) <| And.intro (loopK K140_15 K140_16 rfl) <| And.intro (seqK K140_16 K140_17 K140_18 rfl) <| And.intro (regK K140_17 A140_17 rfl) <| And.intro (nilK A140_17 1 rfl) <| And.intro (opS A140_17 0 1 rfl rfl rfl) <| And.intro (seqK K140_18 K140_19 K140_22 rfl) <| And.intro (condK K140_19 K140_20 K140_21 rfl) <| And.intro (skipK K140_20 rfl) <| And.intro (exitK K140_21 rfl) <| And.intro (seqK K140_22 K140_23 K140_35 rfl) <| And.intro (blkK K140_23 K140_24 rfl) <| And.intro (seqK K140_24 K140_25 K140_26 rfl) <| And.intro (regK K140_25 A140_25 rfl) <| And.intro (nilK A140_25 5 rfl) <| And.intro (opS A140_25 0 1 rfl rfl rfl) <| And.intro (opS A140_25 1 2 rfl rfl rfl) <| And.intro (opS A140_25 2 3 rfl rfl rfl) <| And.intro (opS A140_25 3 4 rfl rfl rfl) <| And.intro (opN A140_25 4 5 rfl rfl rfl) <| And.intro (seqK K140_26 K140_27 K140_28 rfl) <| And.intro (regK K140_27 A140_27 rfl) <| And.intro (nilK A140_27 10 rfl) <| And.intro (opS A140_27 0 1 rfl rfl rfl) <| And.intro (opS A140_27 1 2 rfl rfl rfl) <| And.intro (opS A140_27 2 3 rfl rfl rfl) <| And.intro (opS A140_27 3 4 rfl rfl rfl) <| And.intro (opS A140_27 4 5 rfl rfl rfl) <| And.intro (opS A140_27 5 6 rfl rfl rfl) <| And.intro (opS A140_27 6 7 rfl rfl rfl) <| And.intro (opS A140_27 7 8 rfl rfl rfl) <| And.intro (opN A140_27 8 9 rfl rfl rfl) <| And.intro (opS A140_27 9 10 rfl rfl rfl) <| And.intro (seqK K140_28 K140_29 K140_30 rfl) <| And.intro (regK K140_29 A140_29 rfl) <| And.intro (nilK A140_29 20 rfl) <| And.intro (opS A140_29 0 1 rfl rfl rfl) <| And.intro (opS A140_29 1 2 rfl rfl rfl) <| opS A140_29 2 3 rfl rfl rfl) := And.intro (opS A140_13 2 3 rfl rfl rfl) <| And.intro (blkK K140_14 K140_15 rfl) <| And.intro (loopK K140_15 K140_16 rfl) <| And.intro (seqK K140_16 K140_17 K140_18 rfl) <| And.intro (regK K140_17 A140_17 rfl) <| And.intro (nilK A140_17 1 rfl) <| And.intro (opS A140_17 0 1 rfl rfl rfl) <| And.intro (seqK K140_18 K140_19 K140_22 rfl) <| And.intro (condK K140_19 K140_20 K140_21 rfl) <| And.intro (skipK K140_20 rfl) <| And.intro (exitK K140_21 rfl) <| And.intro (seqK K140_22 K140_23 K140_35 rfl) <| And.intro (blkK K140_23 K140_24 rfl) <| And.intro (seqK K140_24 K140_25 K140_26 rfl) <| And.intro (regK K140_25 A140_25 rfl) <| And.intro (nilK A140_25 5 rfl) <| And.intro (opS A140_25 0 1 rfl rfl rfl) <| And.intro (opS A140_25 1 2 rfl rfl rfl) <| And.intro (opS A140_25 2 3 rfl rfl rfl) <| And.intro (opS A140_25 3 4 rfl rfl rfl) <| And.intro (opN A140_25 4 5 rfl rfl rfl) <| And.intro (seqK K140_26 K140_27 K140_28 rfl) <| And.intro (regK K140_27 A140_27 rfl) <| And.intro (nilK A140_27 10 rfl) <| And.intro (opS A140_27 0 1 rfl rfl rfl) <| And.intro (opS A140_27 1 2 rfl rfl rfl) <| And.intro (opS A140_27 2 3 rfl rfl rfl) <| And.intro (opS A140_27 3 4 rfl rfl rfl) <| And.intro (opS A140_27 4 5 rfl rfl rfl) <| And.intro (opS A140_27 5 6 rfl rfl rfl) <| And.intro (opS A140_27 6 7 rfl rfl rfl) <| And.intro (opS A140_27 7 8 rfl rfl rfl) <| And.intro (opN A140_27 8 9 rfl rfl rfl) <| And.intro (opS A140_27 9 10 rfl rfl rfl) <| And.intro (seqK K140_28 K140_29 K140_30 rfl) <| And.intro (regK K140_29 A140_29 rfl) <| And.intro (nilK A140_29 20 rfl) <| And.intro (opS A140_29 0 1 rfl rfl rfl) <| And.intro (opS A140_29 1 2 rfl rfl rfl) <| opS A140_29 2 3 rfl rfl rfl
theorem code140_2 : type_of% (And.intro (opS A140_29 3 4 rfl rfl rfl) <| And.intro (opS A140_29 4 5 rfl rfl rfl) <| And.intro (opSG A140_29 5 6 rfl rfl rfl rfl) <| And.intro (opSG A140_29 6 7 rfl rfl rfl rfl) <| And.intro (opS A140_29 7 8 rfl rfl rfl) <| And.intro (opS A140_29 8 9 rfl rfl rfl) <| And.intro (opSG A140_29 9 10 rfl rfl rfl rfl) <| And.intro (opSG A140_29 10 11 rfl rfl rfl rfl) <| And.intro (opSG A140_29 11 12 rfl rfl rfl rfl) <| And.intro (opSG A140_29 12 13 rfl rfl rfl rfl) <| And.intro (opSG A140_29 13 14 rfl rfl rfl rfl) <| And.intro (opSG A140_29 14 15 rfl rfl rfl rfl) <| And.intro (opSG A140_29 15 16 rfl rfl rfl rfl) <| And.intro (opSG A140_29 16 17 rfl rfl rfl rfl) <| And.intro (opSG A140_29 17 18 rfl rfl rfl rfl) <| And.intro (opSG A140_29 18 19 rfl rfl rfl rfl) <| And.intro (opS A140_29 19 20 rfl rfl rfl) <| And.intro (condK K140_30 K140_31 K140_34 rfl) <| And.intro (seqK K140_31 K140_32 K140_33 rfl) <| And.intro (regK K140_32 A140_32 rfl) <| And.intro (nilK A140_32 2 rfl) <| And.intro (opS A140_32 0 1 rfl rfl rfl) <| And.intro (opS A140_32 1 2 rfl rfl rfl) <| And.intro (retK K140_33 rfl) <| And.intro (skipK K140_34 rfl) <| And.intro (regK K140_35 A140_35 rfl) <| And.intro (nilK A140_35 2 rfl) <| And.intro (opS A140_35 0 1 rfl rfl rfl) <| And.intro (opS A140_35 1 2 rfl rfl rfl) <| And.intro (seqK K140_36 K140_37 K140_38 rfl) <| And.intro (regK K140_37 A140_37 rfl) <| And.intro (nilK A140_37 3 rfl) <| And.intro (opS A140_37 0 1 rfl rfl rfl) <| And.intro (opS A140_37 1 2 rfl rfl rfl) <| And.intro (opS A140_37 2 3 rfl rfl rfl) <| And.intro (seqK K140_38 K140_39 K140_40 rfl) <| And.intro (regK K140_39 A140_39 rfl) <| And.intro (nilK A140_39 1 rfl) <| And.intro (opS A140_39 0 1 rfl rfl rfl) <| seqK K140_40 K140_41 K140_42 rfl) := And.intro (opS A140_29 3 4 rfl rfl rfl) <| And.intro (opS A140_29 4 5 rfl rfl rfl) <| And.intro (opSG A140_29 5 6 rfl rfl rfl rfl) <| And.intro (opSG A140_29 6 7 rfl rfl rfl rfl) <| And.intro (opS A140_29 7 8 rfl rfl rfl) <| And.intro (opS A140_29 8 9 rfl rfl rfl) <| And.intro (opSG A140_29 9 10 rfl rfl rfl rfl) <| And.intro (opSG A140_29 10 11 rfl rfl rfl rfl) <| And.intro (opSG A140_29 11 12 rfl rfl rfl rfl) <| And.intro (opSG A140_29 12 13 rfl rfl rfl rfl) <| And.intro (opSG A140_29 13 14 rfl rfl rfl rfl) <| And.intro (opSG A140_29 14 15 rfl rfl rfl rfl) <| And.intro (opSG A140_29 15 16 rfl rfl rfl rfl) <| And.intro (opSG A140_29 16 17 rfl rfl rfl rfl) <| And.intro (opSG A140_29 17 18 rfl rfl rfl rfl) <| And.intro (opSG A140_29 18 19 rfl rfl rfl rfl) <| And.intro (opS A140_29 19 20 rfl rfl rfl) <| And.intro (condK K140_30 K140_31 K140_34 rfl) <| And.intro (seqK K140_31 K140_32 K140_33 rfl) <| And.intro (regK K140_32 A140_32 rfl) <| And.intro (nilK A140_32 2 rfl) <| And.intro (opS A140_32 0 1 rfl rfl rfl) <| And.intro (opS A140_32 1 2 rfl rfl rfl) <| And.intro (retK K140_33 rfl) <| And.intro (skipK K140_34 rfl) <| And.intro (regK K140_35 A140_35 rfl) <| And.intro (nilK A140_35 2 rfl) <| And.intro (opS A140_35 0 1 rfl rfl rfl) <| And.intro (opS A140_35 1 2 rfl rfl rfl) <| And.intro (seqK K140_36 K140_37 K140_38 rfl) <| And.intro (regK K140_37 A140_37 rfl) <| And.intro (nilK A140_37 3 rfl) <| And.intro (opS A140_37 0 1 rfl rfl rfl) <| And.intro (opS A140_37 1 2 rfl rfl rfl) <| And.intro (opS A140_37 2 3 rfl rfl rfl) <| And.intro (seqK K140_38 K140_39 K140_40 rfl) <| And.intro (regK K140_39 A140_39 rfl) <| And.intro (nilK A140_39 1 rfl) <| And.intro (opS A140_39 0 1 rfl rfl rfl) <| seqK K140_40 K140_41 K140_42 rfl
theorem code140_3 : type_of% (And.intro (labelK K140_41 rfl) <| And.intro (seqK K140_42 K140_43 K140_86 rfl) <| And.intro (seqK K140_43 K140_44 K140_45 rfl) <| And.intro (regK K140_44 A140_44 rfl) <| And.intro (nilK A140_44 3 rfl) <| And.intro (opS A140_44 0 1 rfl rfl rfl) <| And.intro (opS A140_44 1 2 rfl rfl rfl) <| And.intro (opS A140_44 2 3 rfl rfl rfl) <| And.intro (blkK K140_45 K140_46 rfl) <| And.intro (loopK K140_46 K140_47 rfl) <| And.intro (seqK K140_47 K140_48 K140_49 rfl) <| And.intro (regK K140_48 A140_48 rfl) <| And.intro (nilK A140_48 1 rfl) <| And.intro (opS A140_48 0 1 rfl rfl rfl) <| And.intro (seqK K140_49 K140_50 K140_53 rfl) <| And.intro (condK K140_50 K140_51 K140_52 rfl) <| And.intro (skipK K140_51 rfl) <| And.intro (exitK K140_52 rfl) <| And.intro (seqK K140_53 K140_54 K140_85 rfl) <| And.intro (blkK K140_54 K140_55 rfl) <| And.intro (seqK K140_55 K140_56 K140_57 rfl) <| And.intro (regK K140_56 A140_56 rfl) <| And.intro (nilK A140_56 5 rfl) <| And.intro (opS A140_56 0 1 rfl rfl rfl) <| And.intro (opS A140_56 1 2 rfl rfl rfl) <| And.intro (opS A140_56 2 3 rfl rfl rfl) <| And.intro (opS A140_56 3 4 rfl rfl rfl) <| And.intro (opN A140_56 4 5 rfl rfl rfl) <| And.intro (seqK K140_57 K140_58 K140_63 rfl) <| And.intro (seqK K140_58 K140_59 K140_60 rfl) <| And.intro (regK K140_59 A140_59 rfl) <| And.intro (nilK A140_59 4 rfl) <| And.intro (opS A140_59 0 1 rfl rfl rfl) <| And.intro (opS A140_59 1 2 rfl rfl rfl) <| And.intro (opS A140_59 2 3 rfl rfl rfl) <| And.intro (opS A140_59 3 4 rfl rfl rfl) <| And.intro (condK K140_60 K140_61 K140_62 rfl) <| And.intro (exitK K140_61 rfl) <| And.intro (skipK K140_62 rfl) <| seqK K140_63 K140_64 K140_65 rfl) := And.intro (labelK K140_41 rfl) <| And.intro (seqK K140_42 K140_43 K140_86 rfl) <| And.intro (seqK K140_43 K140_44 K140_45 rfl) <| And.intro (regK K140_44 A140_44 rfl) <| And.intro (nilK A140_44 3 rfl) <| And.intro (opS A140_44 0 1 rfl rfl rfl) <| And.intro (opS A140_44 1 2 rfl rfl rfl) <| And.intro (opS A140_44 2 3 rfl rfl rfl) <| And.intro (blkK K140_45 K140_46 rfl) <| And.intro (loopK K140_46 K140_47 rfl) <| And.intro (seqK K140_47 K140_48 K140_49 rfl) <| And.intro (regK K140_48 A140_48 rfl) <| And.intro (nilK A140_48 1 rfl) <| And.intro (opS A140_48 0 1 rfl rfl rfl) <| And.intro (seqK K140_49 K140_50 K140_53 rfl) <| And.intro (condK K140_50 K140_51 K140_52 rfl) <| And.intro (skipK K140_51 rfl) <| And.intro (exitK K140_52 rfl) <| And.intro (seqK K140_53 K140_54 K140_85 rfl) <| And.intro (blkK K140_54 K140_55 rfl) <| And.intro (seqK K140_55 K140_56 K140_57 rfl) <| And.intro (regK K140_56 A140_56 rfl) <| And.intro (nilK A140_56 5 rfl) <| And.intro (opS A140_56 0 1 rfl rfl rfl) <| And.intro (opS A140_56 1 2 rfl rfl rfl) <| And.intro (opS A140_56 2 3 rfl rfl rfl) <| And.intro (opS A140_56 3 4 rfl rfl rfl) <| And.intro (opN A140_56 4 5 rfl rfl rfl) <| And.intro (seqK K140_57 K140_58 K140_63 rfl) <| And.intro (seqK K140_58 K140_59 K140_60 rfl) <| And.intro (regK K140_59 A140_59 rfl) <| And.intro (nilK A140_59 4 rfl) <| And.intro (opS A140_59 0 1 rfl rfl rfl) <| And.intro (opS A140_59 1 2 rfl rfl rfl) <| And.intro (opS A140_59 2 3 rfl rfl rfl) <| And.intro (opS A140_59 3 4 rfl rfl rfl) <| And.intro (condK K140_60 K140_61 K140_62 rfl) <| And.intro (exitK K140_61 rfl) <| And.intro (skipK K140_62 rfl) <| seqK K140_63 K140_64 K140_65 rfl
theorem code140_4 : type_of% (And.intro (regK K140_64 A140_64 rfl) <| And.intro (nilK A140_64 6 rfl) <| And.intro (opS A140_64 0 1 rfl rfl rfl) <| And.intro (opS A140_64 1 2 rfl rfl rfl) <| And.intro (opS A140_64 2 3 rfl rfl rfl) <| And.intro (opS A140_64 3 4 rfl rfl rfl) <| And.intro (opS A140_64 4 5 rfl rfl rfl) <| And.intro (opN A140_64 5 6 rfl rfl rfl) <| And.intro (seqK K140_65 K140_66 K140_67 rfl) <| And.intro (regK K140_66 A140_66 rfl) <| And.intro (nilK A140_66 10 rfl) <| And.intro (opS A140_66 0 1 rfl rfl rfl) <| And.intro (opS A140_66 1 2 rfl rfl rfl) <| And.intro (opS A140_66 2 3 rfl rfl rfl) <| And.intro (opS A140_66 3 4 rfl rfl rfl) <| And.intro (opS A140_66 4 5 rfl rfl rfl) <| And.intro (opS A140_66 5 6 rfl rfl rfl) <| And.intro (opS A140_66 6 7 rfl rfl rfl) <| And.intro (opS A140_66 7 8 rfl rfl rfl) <| And.intro (opN A140_66 8 9 rfl rfl rfl) <| And.intro (opS A140_66 9 10 rfl rfl rfl) <| And.intro (seqK K140_67 K140_68 K140_80 rfl) <| And.intro (blkK K140_68 K140_69 rfl) <| And.intro (seqK K140_69 K140_70 K140_71 rfl) <| And.intro (regK K140_70 A140_70 rfl) <| And.intro (nilK A140_70 4 rfl) <| And.intro (opS A140_70 0 1 rfl rfl rfl) <| And.intro (opS A140_70 1 2 rfl rfl rfl) <| And.intro (opS A140_70 2 3 rfl rfl rfl) <| And.intro (opS A140_70 3 4 rfl rfl rfl) <| And.intro (condK K140_71 K140_72 K140_73 rfl) <| And.intro (regK K140_72 A140_72 rfl) <| And.intro (nilK A140_72 4 rfl) <| And.intro (opS A140_72 0 1 rfl rfl rfl) <| And.intro (opS A140_72 1 2 rfl rfl rfl) <| And.intro (opS A140_72 2 3 rfl rfl rfl) <| And.intro (opS A140_72 3 4 rfl rfl rfl) <| And.intro (seqK K140_73 K140_74 K140_75 rfl) <| And.intro (regK K140_74 A140_74 rfl) <| nilK A140_74 2 rfl) := And.intro (regK K140_64 A140_64 rfl) <| And.intro (nilK A140_64 6 rfl) <| And.intro (opS A140_64 0 1 rfl rfl rfl) <| And.intro (opS A140_64 1 2 rfl rfl rfl) <| And.intro (opS A140_64 2 3 rfl rfl rfl) <| And.intro (opS A140_64 3 4 rfl rfl rfl) <| And.intro (opS A140_64 4 5 rfl rfl rfl) <| And.intro (opN A140_64 5 6 rfl rfl rfl) <| And.intro (seqK K140_65 K140_66 K140_67 rfl) <| And.intro (regK K140_66 A140_66 rfl) <| And.intro (nilK A140_66 10 rfl) <| And.intro (opS A140_66 0 1 rfl rfl rfl) <| And.intro (opS A140_66 1 2 rfl rfl rfl) <| And.intro (opS A140_66 2 3 rfl rfl rfl) <| And.intro (opS A140_66 3 4 rfl rfl rfl) <| And.intro (opS A140_66 4 5 rfl rfl rfl) <| And.intro (opS A140_66 5 6 rfl rfl rfl) <| And.intro (opS A140_66 6 7 rfl rfl rfl) <| And.intro (opS A140_66 7 8 rfl rfl rfl) <| And.intro (opN A140_66 8 9 rfl rfl rfl) <| And.intro (opS A140_66 9 10 rfl rfl rfl) <| And.intro (seqK K140_67 K140_68 K140_80 rfl) <| And.intro (blkK K140_68 K140_69 rfl) <| And.intro (seqK K140_69 K140_70 K140_71 rfl) <| And.intro (regK K140_70 A140_70 rfl) <| And.intro (nilK A140_70 4 rfl) <| And.intro (opS A140_70 0 1 rfl rfl rfl) <| And.intro (opS A140_70 1 2 rfl rfl rfl) <| And.intro (opS A140_70 2 3 rfl rfl rfl) <| And.intro (opS A140_70 3 4 rfl rfl rfl) <| And.intro (condK K140_71 K140_72 K140_73 rfl) <| And.intro (regK K140_72 A140_72 rfl) <| And.intro (nilK A140_72 4 rfl) <| And.intro (opS A140_72 0 1 rfl rfl rfl) <| And.intro (opS A140_72 1 2 rfl rfl rfl) <| And.intro (opS A140_72 2 3 rfl rfl rfl) <| And.intro (opS A140_72 3 4 rfl rfl rfl) <| And.intro (seqK K140_73 K140_74 K140_75 rfl) <| And.intro (regK K140_74 A140_74 rfl) <| nilK A140_74 2 rfl
theorem code140_5 : type_of% (And.intro (opS A140_74 0 1 rfl rfl rfl) <| And.intro (opS A140_74 1 2 rfl rfl rfl) <| And.intro (condK K140_75 K140_76 K140_77 rfl) <| And.intro (regK K140_76 A140_76 rfl) <| And.intro (nilK A140_76 4 rfl) <| And.intro (opS A140_76 0 1 rfl rfl rfl) <| And.intro (opS A140_76 1 2 rfl rfl rfl) <| And.intro (opS A140_76 2 3 rfl rfl rfl) <| And.intro (opS A140_76 3 4 rfl rfl rfl) <| And.intro (seqK K140_77 K140_78 K140_79 rfl) <| And.intro (regK K140_78 A140_78 rfl) <| And.intro (nilK A140_78 10 rfl) <| And.intro (opS A140_78 0 1 rfl rfl rfl) <| And.intro (opS A140_78 1 2 rfl rfl rfl) <| And.intro (opS A140_78 2 3 rfl rfl rfl) <| And.intro (opS A140_78 3 4 rfl rfl rfl) <| And.intro (opS A140_78 4 5 rfl rfl rfl) <| And.intro (opS A140_78 5 6 rfl rfl rfl) <| And.intro (opS A140_78 6 7 rfl rfl rfl) <| And.intro (opS A140_78 7 8 rfl rfl rfl) <| And.intro (opS A140_78 8 9 rfl rfl rfl) <| And.intro (opS A140_78 9 10 rfl rfl rfl) <| And.intro (regK K140_79 A140_79 rfl) <| And.intro (nilK A140_79 5 rfl) <| And.intro (opS A140_79 0 1 rfl rfl rfl) <| And.intro (opS A140_79 1 2 rfl rfl rfl) <| And.intro (opS A140_79 2 3 rfl rfl rfl) <| And.intro (opS A140_79 3 4 rfl rfl rfl) <| And.intro (opS A140_79 4 5 rfl rfl rfl) <| And.intro (seqK K140_80 K140_81 K140_82 rfl) <| And.intro (regK K140_81 A140_81 rfl) <| And.intro (nilK A140_81 2 rfl) <| And.intro (opS A140_81 0 1 rfl rfl rfl) <| And.intro (opS A140_81 1 2 rfl rfl rfl) <| And.intro (condK K140_82 K140_83 K140_84 rfl) <| And.intro (exitK K140_83 rfl) <| And.intro (skipK K140_84 rfl) <| And.intro (regK K140_85 A140_85 rfl) <| And.intro (nilK A140_85 2 rfl) <| opS A140_85 0 1 rfl rfl rfl) := And.intro (opS A140_74 0 1 rfl rfl rfl) <| And.intro (opS A140_74 1 2 rfl rfl rfl) <| And.intro (condK K140_75 K140_76 K140_77 rfl) <| And.intro (regK K140_76 A140_76 rfl) <| And.intro (nilK A140_76 4 rfl) <| And.intro (opS A140_76 0 1 rfl rfl rfl) <| And.intro (opS A140_76 1 2 rfl rfl rfl) <| And.intro (opS A140_76 2 3 rfl rfl rfl) <| And.intro (opS A140_76 3 4 rfl rfl rfl) <| And.intro (seqK K140_77 K140_78 K140_79 rfl) <| And.intro (regK K140_78 A140_78 rfl) <| And.intro (nilK A140_78 10 rfl) <| And.intro (opS A140_78 0 1 rfl rfl rfl) <| And.intro (opS A140_78 1 2 rfl rfl rfl) <| And.intro (opS A140_78 2 3 rfl rfl rfl) <| And.intro (opS A140_78 3 4 rfl rfl rfl) <| And.intro (opS A140_78 4 5 rfl rfl rfl) <| And.intro (opS A140_78 5 6 rfl rfl rfl) <| And.intro (opS A140_78 6 7 rfl rfl rfl) <| And.intro (opS A140_78 7 8 rfl rfl rfl) <| And.intro (opS A140_78 8 9 rfl rfl rfl) <| And.intro (opS A140_78 9 10 rfl rfl rfl) <| And.intro (regK K140_79 A140_79 rfl) <| And.intro (nilK A140_79 5 rfl) <| And.intro (opS A140_79 0 1 rfl rfl rfl) <| And.intro (opS A140_79 1 2 rfl rfl rfl) <| And.intro (opS A140_79 2 3 rfl rfl rfl) <| And.intro (opS A140_79 3 4 rfl rfl rfl) <| And.intro (opS A140_79 4 5 rfl rfl rfl) <| And.intro (seqK K140_80 K140_81 K140_82 rfl) <| And.intro (regK K140_81 A140_81 rfl) <| And.intro (nilK A140_81 2 rfl) <| And.intro (opS A140_81 0 1 rfl rfl rfl) <| And.intro (opS A140_81 1 2 rfl rfl rfl) <| And.intro (condK K140_82 K140_83 K140_84 rfl) <| And.intro (exitK K140_83 rfl) <| And.intro (skipK K140_84 rfl) <| And.intro (regK K140_85 A140_85 rfl) <| And.intro (nilK A140_85 2 rfl) <| opS A140_85 0 1 rfl rfl rfl
theorem code140_6 : type_of% (And.intro (opS A140_85 1 2 rfl rfl rfl) <| And.intro (seqK K140_86 K140_87 K140_94 rfl) <| And.intro (seqK K140_87 K140_88 K140_89 rfl) <| And.intro (regK K140_88 A140_88 rfl) <| And.intro (nilK A140_88 2 rfl) <| And.intro (opS A140_88 0 1 rfl rfl rfl) <| And.intro (opS A140_88 1 2 rfl rfl rfl) <| And.intro (condK K140_89 K140_90 K140_93 rfl) <| And.intro (seqK K140_90 K140_91 K140_92 rfl) <| And.intro (regK K140_91 A140_91 rfl) <| And.intro (nilK A140_91 2 rfl) <| And.intro (opS A140_91 0 1 rfl rfl rfl) <| And.intro (opS A140_91 1 2 rfl rfl rfl) <| And.intro (retK K140_92 rfl) <| And.intro (skipK K140_93 rfl) <| And.intro (seqK K140_94 K140_95 K140_96 rfl) <| And.intro (regK K140_95 A140_95 rfl) <| And.intro (nilK A140_95 3 rfl) <| And.intro (opS A140_95 0 1 rfl rfl rfl) <| And.intro (opS A140_95 1 2 rfl rfl rfl) <| And.intro (opS A140_95 2 3 rfl rfl rfl) <| retK K140_96 rfl) := And.intro (opS A140_85 1 2 rfl rfl rfl) <| And.intro (seqK K140_86 K140_87 K140_94 rfl) <| And.intro (seqK K140_87 K140_88 K140_89 rfl) <| And.intro (regK K140_88 A140_88 rfl) <| And.intro (nilK A140_88 2 rfl) <| And.intro (opS A140_88 0 1 rfl rfl rfl) <| And.intro (opS A140_88 1 2 rfl rfl rfl) <| And.intro (condK K140_89 K140_90 K140_93 rfl) <| And.intro (seqK K140_90 K140_91 K140_92 rfl) <| And.intro (regK K140_91 A140_91 rfl) <| And.intro (nilK A140_91 2 rfl) <| And.intro (opS A140_91 0 1 rfl rfl rfl) <| And.intro (opS A140_91 1 2 rfl rfl rfl) <| And.intro (retK K140_92 rfl) <| And.intro (skipK K140_93 rfl) <| And.intro (seqK K140_94 K140_95 K140_96 rfl) <| And.intro (regK K140_95 A140_95 rfl) <| And.intro (nilK A140_95 3 rfl) <| And.intro (opS A140_95 0 1 rfl rfl rfl) <| And.intro (opS A140_95 1 2 rfl rfl rfl) <| And.intro (opS A140_95 2 3 rfl rfl rfl) <| retK K140_96 rfl
theorem ty140 : type_of% (And.intro @al36 <| And.intro @fa36_0 <| And.intro @fa36_1 <| And.intro @fa39_2 <| And.intro @fa39_3 <| And.intro @ix37 <| And.intro @ld3 <| And.intro @ld36 <| And.intro @ld37 <| And.intro @ld39 <| And.intro @ld4 <| And.intro @ld9 <| @fi140) := And.intro @al36 <| And.intro @fa36_0 <| And.intro @fa36_1 <| And.intro @fa39_2 <| And.intro @fa39_3 <| And.intro @ix37 <| And.intro @ld3 <| And.intro @ld36 <| And.intro @ld37 <| And.intro @ld39 <| And.intro @ld4 <| And.intro @ld9 <| @fi140

noncomputable def K139_0 : Code := Try.f139.body.getD .skip
noncomputable def K139_1 : Code := lft K139_0
noncomputable def A139_1 : Array Oper := rops K139_1
noncomputable def K139_2 : Code := rgt K139_0
noncomputable def K139_3 : Code := lft K139_2
noncomputable def A139_3 : Array Oper := rops K139_3
noncomputable def K139_4 : Code := rgt K139_2
theorem body139 : Try.f139.body = some K139_0 := by kernel_rfl
theorem code139_0 : type_of% (And.intro (seqK K139_0 K139_1 K139_2 rfl) <| And.intro (regK K139_1 A139_1 rfl) <| And.intro (nilK A139_1 4 rfl) <| And.intro (opS A139_1 0 1 rfl rfl rfl) <| And.intro (opS A139_1 1 2 rfl rfl rfl) <| And.intro (opS A139_1 2 3 rfl rfl rfl) <| And.intro (opS A139_1 3 4 rfl rfl rfl) <| And.intro (seqK K139_2 K139_3 K139_4 rfl) <| And.intro (regK K139_3 A139_3 rfl) <| And.intro (nilK A139_3 7 rfl) <| And.intro (opS A139_3 0 1 rfl rfl rfl) <| And.intro (opS A139_3 1 2 rfl rfl rfl) <| And.intro (opS A139_3 2 3 rfl rfl rfl) <| And.intro (opS A139_3 3 4 rfl rfl rfl) <| And.intro (opS A139_3 4 5 rfl rfl rfl) <| And.intro (opS A139_3 5 6 rfl rfl rfl) <| And.intro (opS A139_3 6 7 rfl rfl rfl) <| retK K139_4 rfl) := And.intro (seqK K139_0 K139_1 K139_2 rfl) <| And.intro (regK K139_1 A139_1 rfl) <| And.intro (nilK A139_1 4 rfl) <| And.intro (opS A139_1 0 1 rfl rfl rfl) <| And.intro (opS A139_1 1 2 rfl rfl rfl) <| And.intro (opS A139_1 2 3 rfl rfl rfl) <| And.intro (opS A139_1 3 4 rfl rfl rfl) <| And.intro (seqK K139_2 K139_3 K139_4 rfl) <| And.intro (regK K139_3 A139_3 rfl) <| And.intro (nilK A139_3 7 rfl) <| And.intro (opS A139_3 0 1 rfl rfl rfl) <| And.intro (opS A139_3 1 2 rfl rfl rfl) <| And.intro (opS A139_3 2 3 rfl rfl rfl) <| And.intro (opS A139_3 3 4 rfl rfl rfl) <| And.intro (opS A139_3 4 5 rfl rfl rfl) <| And.intro (opS A139_3 5 6 rfl rfl rfl) <| And.intro (opS A139_3 6 7 rfl rfl rfl) <| retK K139_4 rfl
theorem ty139 : type_of% (And.intro @ld39 <| @fi139) := And.intro @ld39 <| @fi139

noncomputable def K82_0 : Code := Try.f82.body.getD .skip
noncomputable def K82_1 : Code := lft K82_0
noncomputable def A82_1 : Array Oper := rops K82_1
noncomputable def K82_2 : Code := rgt K82_0
noncomputable def K82_3 : Code := lft K82_2
noncomputable def A82_3 : Array Oper := rops K82_3
noncomputable def K82_4 : Code := rgt K82_2
noncomputable def K82_5 : Code := lft K82_4
noncomputable def K82_6 : Code := lft K82_5
noncomputable def A82_6 : Array Oper := rops K82_6
noncomputable def K82_7 : Code := rgt K82_5
noncomputable def K82_8 : Code := lft K82_7
noncomputable def K82_9 : Code := lft K82_8
noncomputable def A82_9 : Array Oper := rops K82_9
noncomputable def K82_10 : Code := rgt K82_8
noncomputable def K82_11 : Code := rgt K82_7
noncomputable def K82_12 : Code := rgt K82_4
noncomputable def K82_13 : Code := lft K82_12
noncomputable def K82_14 : Code := lft K82_13
noncomputable def A82_14 : Array Oper := rops K82_14
noncomputable def K82_15 : Code := rgt K82_13
noncomputable def K82_16 : Code := lft K82_15
noncomputable def K82_17 : Code := lft K82_16
noncomputable def K82_18 : Code := lft K82_17
noncomputable def A82_18 : Array Oper := rops K82_18
noncomputable def K82_19 : Code := rgt K82_17
noncomputable def K82_20 : Code := lft K82_19
noncomputable def K82_21 : Code := lft K82_20
noncomputable def K82_22 : Code := rgt K82_20
noncomputable def K82_23 : Code := rgt K82_19
noncomputable def K82_24 : Code := lft K82_23
noncomputable def K82_25 : Code := lft K82_24
noncomputable def K82_26 : Code := lft K82_25
noncomputable def A82_26 : Array Oper := rops K82_26
noncomputable def K82_27 : Code := rgt K82_25
noncomputable def K82_28 : Code := lft K82_27
noncomputable def A82_28 : Array Oper := rops K82_28
noncomputable def K82_29 : Code := rgt K82_27
noncomputable def K82_30 : Code := lft K82_29
noncomputable def A82_30 : Array Oper := rops K82_30
noncomputable def K82_31 : Code := rgt K82_29
noncomputable def K82_32 : Code := lft K82_31
noncomputable def K82_33 : Code := lft K82_32
noncomputable def A82_33 : Array Oper := rops K82_33
noncomputable def K82_34 : Code := rgt K82_32
noncomputable def K82_35 : Code := rgt K82_31
noncomputable def K82_36 : Code := rgt K82_23
noncomputable def A82_36 : Array Oper := rops K82_36
noncomputable def K82_37 : Code := rgt K82_12
noncomputable def K82_38 : Code := lft K82_37
noncomputable def A82_38 : Array Oper := rops K82_38
noncomputable def K82_39 : Code := rgt K82_37
theorem body82 : Try.f82.body = some K82_0 := by kernel_rfl
theorem D82_28 : DrawK K82_28 A82_28 := drawK rfl (by kernel_rfl)
theorem code82_0 : type_of% (And.intro (seqK K82_0 K82_1 K82_2 rfl) <| And.intro (regK K82_1 A82_1 rfl) <| And.intro (nilK A82_1 3 rfl) <| And.intro (opS A82_1 0 1 rfl rfl rfl) <| And.intro (opS A82_1 1 2 rfl rfl rfl) <| And.intro (opS A82_1 2 3 rfl rfl rfl) <| And.intro (seqK K82_2 K82_3 K82_4 rfl) <| And.intro (regK K82_3 A82_3 rfl) <| And.intro (nilK A82_3 9 rfl) <| And.intro (opS A82_3 0 1 rfl rfl rfl) <| And.intro (opS A82_3 1 2 rfl rfl rfl) <| And.intro (opS A82_3 2 3 rfl rfl rfl) <| And.intro (opS A82_3 3 4 rfl rfl rfl) <| And.intro (opS A82_3 4 5 rfl rfl rfl) <| And.intro (opS A82_3 5 6 rfl rfl rfl) <| And.intro (opS A82_3 6 7 rfl rfl rfl) <| And.intro (opS A82_3 7 8 rfl rfl rfl) <| And.intro (opS A82_3 8 9 rfl rfl rfl) <| And.intro (seqK K82_4 K82_5 K82_12 rfl) <| And.intro (seqK K82_5 K82_6 K82_7 rfl) <| And.intro (regK K82_6 A82_6 rfl) <| And.intro (nilK A82_6 10 rfl) <| And.intro (opS A82_6 0 1 rfl rfl rfl) <| And.intro (opS A82_6 1 2 rfl rfl rfl) <| And.intro (opS A82_6 2 3 rfl rfl rfl) <| And.intro (opSG A82_6 3 4 rfl rfl rfl rfl) <| And.intro (opSG A82_6 4 5 rfl rfl rfl rfl) <| And.intro (opSG A82_6 5 6 rfl rfl rfl rfl) <| And.intro (opSG A82_6 6 7 rfl rfl rfl rfl) <| And.intro (opSG A82_6 7 8 rfl rfl rfl rfl) <| And.intro (opSG A82_6 8 9 rfl rfl rfl rfl) <| And.intro (opS A82_6 9 10 rfl rfl rfl) <| And.intro (condK K82_7 K82_8 K82_11 rfl) <| And.intro (seqK K82_8 K82_9 K82_10 rfl) <| And.intro (regK K82_9 A82_9 rfl) <| And.intro (nilK A82_9 1 rfl) <| And.intro (opS A82_9 0 1 rfl rfl rfl) <| And.intro (retK K82_10 rfl) <| And.intro (skipK K82_11 rfl) <| seqK K82_12 K82_13 K82_37 rfl) := And.intro (seqK K82_0 K82_1 K82_2 rfl) <| And.intro (regK K82_1 A82_1 rfl) <| And.intro (nilK A82_1 3 rfl) <| And.intro (opS A82_1 0 1 rfl rfl rfl) <| And.intro (opS A82_1 1 2 rfl rfl rfl) <| And.intro (opS A82_1 2 3 rfl rfl rfl) <| And.intro (seqK K82_2 K82_3 K82_4 rfl) <| And.intro (regK K82_3 A82_3 rfl) <| And.intro (nilK A82_3 9 rfl) <| And.intro (opS A82_3 0 1 rfl rfl rfl) <| And.intro (opS A82_3 1 2 rfl rfl rfl) <| And.intro (opS A82_3 2 3 rfl rfl rfl) <| And.intro (opS A82_3 3 4 rfl rfl rfl) <| And.intro (opS A82_3 4 5 rfl rfl rfl) <| And.intro (opS A82_3 5 6 rfl rfl rfl) <| And.intro (opS A82_3 6 7 rfl rfl rfl) <| And.intro (opS A82_3 7 8 rfl rfl rfl) <| And.intro (opS A82_3 8 9 rfl rfl rfl) <| And.intro (seqK K82_4 K82_5 K82_12 rfl) <| And.intro (seqK K82_5 K82_6 K82_7 rfl) <| And.intro (regK K82_6 A82_6 rfl) <| And.intro (nilK A82_6 10 rfl) <| And.intro (opS A82_6 0 1 rfl rfl rfl) <| And.intro (opS A82_6 1 2 rfl rfl rfl) <| And.intro (opS A82_6 2 3 rfl rfl rfl) <| And.intro (opSG A82_6 3 4 rfl rfl rfl rfl) <| And.intro (opSG A82_6 4 5 rfl rfl rfl rfl) <| And.intro (opSG A82_6 5 6 rfl rfl rfl rfl) <| And.intro (opSG A82_6 6 7 rfl rfl rfl rfl) <| And.intro (opSG A82_6 7 8 rfl rfl rfl rfl) <| And.intro (opSG A82_6 8 9 rfl rfl rfl rfl) <| And.intro (opS A82_6 9 10 rfl rfl rfl) <| And.intro (condK K82_7 K82_8 K82_11 rfl) <| And.intro (seqK K82_8 K82_9 K82_10 rfl) <| And.intro (regK K82_9 A82_9 rfl) <| And.intro (nilK A82_9 1 rfl) <| And.intro (opS A82_9 0 1 rfl rfl rfl) <| And.intro (retK K82_10 rfl) <| And.intro (skipK K82_11 rfl) <| seqK K82_12 K82_13 K82_37 rfl
theorem code82_1 : type_of% (And.intro (seqK K82_13 K82_14 K82_15 rfl) <| And.intro (regK K82_14 A82_14 rfl) <| And.intro (nilK A82_14 3 rfl) <| And.intro (opS A82_14 0 1 rfl rfl rfl) <| And.intro (opS A82_14 1 2 rfl rfl rfl) <| And.intro (opS A82_14 2 3 rfl rfl rfl) <| And.intro (blkK K82_15 K82_16 rfl) <| And.intro (loopK K82_16 K82_17 rfl) <| And.intro (seqK K82_17 K82_18 K82_19 rfl) <| And.intro (regK K82_18 A82_18 rfl) <| And.intro (nilK A82_18 1 rfl) <| And.intro (opS A82_18 0 1 rfl rfl rfl) <| And.intro (seqK K82_19 K82_20 K82_23 rfl) <| And.intro (condK K82_20 K82_21 K82_22 rfl) <| And.intro (skipK K82_21 rfl) <| And.intro (exitK K82_22 rfl) <| And.intro (seqK K82_23 K82_24 K82_36 rfl) <| And.intro (blkK K82_24 K82_25 rfl) <| And.intro (seqK K82_25 K82_26 K82_27 rfl) <| And.intro (regK K82_26 A82_26 rfl) <| And.intro (nilK A82_26 6 rfl) <| And.intro (opS A82_26 0 1 rfl rfl rfl) <| And.intro (opS A82_26 1 2 rfl rfl rfl) <| And.intro (opS A82_26 2 3 rfl rfl rfl) <| And.intro (opS A82_26 3 4 rfl rfl rfl) <| And.intro (opS A82_26 4 5 rfl rfl rfl) <| And.intro (opN A82_26 5 6 rfl rfl rfl) <| And.intro (seqK K82_27 K82_28 K82_29 rfl) <| And.intro (nilX A82_28 13 rfl) <| And.intro (opSX A82_28 0 1 true rfl rfl rfl rfl) <| And.intro (opSX A82_28 1 2 true rfl rfl rfl rfl) <| And.intro (opSX A82_28 2 3 true rfl rfl rfl rfl) <| And.intro (opSX A82_28 3 4 true rfl rfl rfl rfl) <| And.intro (opSX A82_28 4 5 true rfl rfl rfl rfl) <| And.intro (opSX A82_28 5 6 true rfl rfl rfl rfl) <| And.intro (opSX A82_28 6 7 true rfl rfl rfl rfl) <| And.intro (opSX A82_28 7 8 false rfl rfl rfl rfl) <| And.intro (opSX A82_28 8 9 true rfl rfl rfl rfl) <| And.intro (opSX A82_28 9 10 true rfl rfl rfl rfl) <| opSX A82_28 10 11 true rfl rfl rfl rfl) := And.intro (seqK K82_13 K82_14 K82_15 rfl) <| And.intro (regK K82_14 A82_14 rfl) <| And.intro (nilK A82_14 3 rfl) <| And.intro (opS A82_14 0 1 rfl rfl rfl) <| And.intro (opS A82_14 1 2 rfl rfl rfl) <| And.intro (opS A82_14 2 3 rfl rfl rfl) <| And.intro (blkK K82_15 K82_16 rfl) <| And.intro (loopK K82_16 K82_17 rfl) <| And.intro (seqK K82_17 K82_18 K82_19 rfl) <| And.intro (regK K82_18 A82_18 rfl) <| And.intro (nilK A82_18 1 rfl) <| And.intro (opS A82_18 0 1 rfl rfl rfl) <| And.intro (seqK K82_19 K82_20 K82_23 rfl) <| And.intro (condK K82_20 K82_21 K82_22 rfl) <| And.intro (skipK K82_21 rfl) <| And.intro (exitK K82_22 rfl) <| And.intro (seqK K82_23 K82_24 K82_36 rfl) <| And.intro (blkK K82_24 K82_25 rfl) <| And.intro (seqK K82_25 K82_26 K82_27 rfl) <| And.intro (regK K82_26 A82_26 rfl) <| And.intro (nilK A82_26 6 rfl) <| And.intro (opS A82_26 0 1 rfl rfl rfl) <| And.intro (opS A82_26 1 2 rfl rfl rfl) <| And.intro (opS A82_26 2 3 rfl rfl rfl) <| And.intro (opS A82_26 3 4 rfl rfl rfl) <| And.intro (opS A82_26 4 5 rfl rfl rfl) <| And.intro (opN A82_26 5 6 rfl rfl rfl) <| And.intro (seqK K82_27 K82_28 K82_29 rfl) <| And.intro (nilX A82_28 13 rfl) <| And.intro (opSX A82_28 0 1 true rfl rfl rfl rfl) <| And.intro (opSX A82_28 1 2 true rfl rfl rfl rfl) <| And.intro (opSX A82_28 2 3 true rfl rfl rfl rfl) <| And.intro (opSX A82_28 3 4 true rfl rfl rfl rfl) <| And.intro (opSX A82_28 4 5 true rfl rfl rfl rfl) <| And.intro (opSX A82_28 5 6 true rfl rfl rfl rfl) <| And.intro (opSX A82_28 6 7 true rfl rfl rfl rfl) <| And.intro (opSX A82_28 7 8 false rfl rfl rfl rfl) <| And.intro (opSX A82_28 8 9 true rfl rfl rfl rfl) <| And.intro (opSX A82_28 9 10 true rfl rfl rfl rfl) <| opSX A82_28 10 11 true rfl rfl rfl rfl
theorem code82_2 : type_of% (And.intro (opSX A82_28 11 12 true rfl rfl rfl rfl) <| And.intro (opSX A82_28 12 13 true rfl rfl rfl rfl) <| And.intro (seqK K82_29 K82_30 K82_31 rfl) <| And.intro (regK K82_30 A82_30 rfl) <| And.intro (nilK A82_30 2 rfl) <| And.intro (opS A82_30 0 1 rfl rfl rfl) <| And.intro (opS A82_30 1 2 rfl rfl rfl) <| And.intro (condK K82_31 K82_32 K82_35 rfl) <| And.intro (seqK K82_32 K82_33 K82_34 rfl) <| And.intro (regK K82_33 A82_33 rfl) <| And.intro (nilK A82_33 1 rfl) <| And.intro (opS A82_33 0 1 rfl rfl rfl) <| And.intro (retK K82_34 rfl) <| And.intro (skipK K82_35 rfl) <| And.intro (regK K82_36 A82_36 rfl) <| And.intro (nilK A82_36 2 rfl) <| And.intro (opS A82_36 0 1 rfl rfl rfl) <| And.intro (opS A82_36 1 2 rfl rfl rfl) <| And.intro (seqK K82_37 K82_38 K82_39 rfl) <| And.intro (regK K82_38 A82_38 rfl) <| And.intro (nilK A82_38 1 rfl) <| And.intro (opS A82_38 0 1 rfl rfl rfl) <| retK K82_39 rfl) := And.intro (opSX A82_28 11 12 true rfl rfl rfl rfl) <| And.intro (opSX A82_28 12 13 true rfl rfl rfl rfl) <| And.intro (seqK K82_29 K82_30 K82_31 rfl) <| And.intro (regK K82_30 A82_30 rfl) <| And.intro (nilK A82_30 2 rfl) <| And.intro (opS A82_30 0 1 rfl rfl rfl) <| And.intro (opS A82_30 1 2 rfl rfl rfl) <| And.intro (condK K82_31 K82_32 K82_35 rfl) <| And.intro (seqK K82_32 K82_33 K82_34 rfl) <| And.intro (regK K82_33 A82_33 rfl) <| And.intro (nilK A82_33 1 rfl) <| And.intro (opS A82_33 0 1 rfl rfl rfl) <| And.intro (retK K82_34 rfl) <| And.intro (skipK K82_35 rfl) <| And.intro (regK K82_36 A82_36 rfl) <| And.intro (nilK A82_36 2 rfl) <| And.intro (opS A82_36 0 1 rfl rfl rfl) <| And.intro (opS A82_36 1 2 rfl rfl rfl) <| And.intro (seqK K82_37 K82_38 K82_39 rfl) <| And.intro (regK K82_38 A82_38 rfl) <| And.intro (nilK A82_38 1 rfl) <| And.intro (opS A82_38 0 1 rfl rfl rfl) <| retK K82_39 rfl
theorem ty82 : type_of% (And.intro @al39 <| And.intro @fa47_0 <| And.intro @fa47_1 <| And.intro @ix23 <| And.intro @ld23 <| And.intro @ld39 <| And.intro @ln23 <| @fi82) := And.intro @al39 <| And.intro @fa47_0 <| And.intro @fa47_1 <| And.intro @ix23 <| And.intro @ld23 <| And.intro @ld39 <| And.intro @ln23 <| @fi82

noncomputable def K21_0 : Code := Try.f21.body.getD .skip
noncomputable def K21_1 : Code := lft K21_0
noncomputable def A21_1 : Array Oper := rops K21_1
noncomputable def K21_2 : Code := rgt K21_0
noncomputable def K21_3 : Code := lft K21_2
noncomputable def K21_4 : Code := lft K21_3
noncomputable def K21_5 : Code := lft K21_4
noncomputable def A21_5 : Array Oper := rops K21_5
noncomputable def K21_6 : Code := rgt K21_4
noncomputable def K21_7 : Code := lft K21_6
noncomputable def K21_8 : Code := lft K21_7
noncomputable def A21_8 : Array Oper := rops K21_8
noncomputable def K21_9 : Code := rgt K21_7
noncomputable def K21_10 : Code := rgt K21_6
noncomputable def K21_11 : Code := lft K21_10
noncomputable def A21_11 : Array Oper := rops K21_11
noncomputable def K21_12 : Code := rgt K21_10
noncomputable def K21_13 : Code := lft K21_12
noncomputable def K21_14 : Code := lft K21_13
noncomputable def A21_14 : Array Oper := rops K21_14
noncomputable def K21_15 : Code := rgt K21_13
noncomputable def K21_16 : Code := rgt K21_12
noncomputable def K21_17 : Code := lft K21_16
noncomputable def A21_17 : Array Oper := rops K21_17
noncomputable def K21_18 : Code := rgt K21_16
noncomputable def K21_19 : Code := lft K21_18
noncomputable def K21_20 : Code := lft K21_19
noncomputable def A21_20 : Array Oper := rops K21_20
noncomputable def K21_21 : Code := rgt K21_19
noncomputable def K21_22 : Code := rgt K21_18
noncomputable def K21_23 : Code := rgt K21_2
noncomputable def K21_24 : Code := lft K21_23
noncomputable def A21_24 : Array Oper := rops K21_24
noncomputable def K21_25 : Code := rgt K21_23
theorem body21 : Try.f21.body = some K21_0 := by kernel_rfl
theorem D21_24 : DrawK K21_24 A21_24 := drawK rfl (by kernel_rfl)
theorem code21_0 : type_of% (And.intro (seqK K21_0 K21_1 K21_2 rfl) <| And.intro (regK K21_1 A21_1 rfl) <| And.intro (nilK A21_1 2 rfl) <| And.intro (opS A21_1 0 1 rfl rfl rfl) <| And.intro (opS A21_1 1 2 rfl rfl rfl) <| And.intro (seqK K21_2 K21_3 K21_23 rfl) <| And.intro (blkK K21_3 K21_4 rfl) <| And.intro (seqK K21_4 K21_5 K21_6 rfl) <| And.intro (regK K21_5 A21_5 rfl) <| And.intro (nilK A21_5 5 rfl) <| And.intro (opS A21_5 0 1 rfl rfl rfl) <| And.intro (opS A21_5 1 2 rfl rfl rfl) <| And.intro (opS A21_5 2 3 rfl rfl rfl) <| And.intro (opS A21_5 3 4 rfl rfl rfl) <| And.intro (opS A21_5 4 5 rfl rfl rfl) <| And.intro (condK K21_6 K21_7 K21_10 rfl) <| And.intro (seqK K21_7 K21_8 K21_9 rfl) <| And.intro (regK K21_8 A21_8 rfl) <| And.intro (nilK A21_8 1 rfl) <| And.intro (opS A21_8 0 1 rfl rfl rfl) <| And.intro (retK K21_9 rfl) <| And.intro (seqK K21_10 K21_11 K21_12 rfl) <| And.intro (regK K21_11 A21_11 rfl) <| And.intro (nilK A21_11 4 rfl) <| And.intro (opS A21_11 0 1 rfl rfl rfl) <| And.intro (opS A21_11 1 2 rfl rfl rfl) <| And.intro (opS A21_11 2 3 rfl rfl rfl) <| And.intro (opS A21_11 3 4 rfl rfl rfl) <| And.intro (condK K21_12 K21_13 K21_16 rfl) <| And.intro (seqK K21_13 K21_14 K21_15 rfl) <| And.intro (regK K21_14 A21_14 rfl) <| And.intro (nilK A21_14 11 rfl) <| And.intro (opS A21_14 0 1 rfl rfl rfl) <| And.intro (opS A21_14 1 2 rfl rfl rfl) <| And.intro (opS A21_14 2 3 rfl rfl rfl) <| And.intro (opS A21_14 3 4 rfl rfl rfl) <| And.intro (opS A21_14 4 5 rfl rfl rfl) <| And.intro (opSG A21_14 5 6 rfl rfl rfl rfl) <| And.intro (opSG A21_14 6 7 rfl rfl rfl rfl) <| opSG A21_14 7 8 rfl rfl rfl rfl) := And.intro (seqK K21_0 K21_1 K21_2 rfl) <| And.intro (regK K21_1 A21_1 rfl) <| And.intro (nilK A21_1 2 rfl) <| And.intro (opS A21_1 0 1 rfl rfl rfl) <| And.intro (opS A21_1 1 2 rfl rfl rfl) <| And.intro (seqK K21_2 K21_3 K21_23 rfl) <| And.intro (blkK K21_3 K21_4 rfl) <| And.intro (seqK K21_4 K21_5 K21_6 rfl) <| And.intro (regK K21_5 A21_5 rfl) <| And.intro (nilK A21_5 5 rfl) <| And.intro (opS A21_5 0 1 rfl rfl rfl) <| And.intro (opS A21_5 1 2 rfl rfl rfl) <| And.intro (opS A21_5 2 3 rfl rfl rfl) <| And.intro (opS A21_5 3 4 rfl rfl rfl) <| And.intro (opS A21_5 4 5 rfl rfl rfl) <| And.intro (condK K21_6 K21_7 K21_10 rfl) <| And.intro (seqK K21_7 K21_8 K21_9 rfl) <| And.intro (regK K21_8 A21_8 rfl) <| And.intro (nilK A21_8 1 rfl) <| And.intro (opS A21_8 0 1 rfl rfl rfl) <| And.intro (retK K21_9 rfl) <| And.intro (seqK K21_10 K21_11 K21_12 rfl) <| And.intro (regK K21_11 A21_11 rfl) <| And.intro (nilK A21_11 4 rfl) <| And.intro (opS A21_11 0 1 rfl rfl rfl) <| And.intro (opS A21_11 1 2 rfl rfl rfl) <| And.intro (opS A21_11 2 3 rfl rfl rfl) <| And.intro (opS A21_11 3 4 rfl rfl rfl) <| And.intro (condK K21_12 K21_13 K21_16 rfl) <| And.intro (seqK K21_13 K21_14 K21_15 rfl) <| And.intro (regK K21_14 A21_14 rfl) <| And.intro (nilK A21_14 11 rfl) <| And.intro (opS A21_14 0 1 rfl rfl rfl) <| And.intro (opS A21_14 1 2 rfl rfl rfl) <| And.intro (opS A21_14 2 3 rfl rfl rfl) <| And.intro (opS A21_14 3 4 rfl rfl rfl) <| And.intro (opS A21_14 4 5 rfl rfl rfl) <| And.intro (opSG A21_14 5 6 rfl rfl rfl rfl) <| And.intro (opSG A21_14 6 7 rfl rfl rfl rfl) <| opSG A21_14 7 8 rfl rfl rfl rfl
theorem code21_1 : type_of% (And.intro (opSG A21_14 8 9 rfl rfl rfl rfl) <| And.intro (opS A21_14 9 10 rfl rfl rfl) <| And.intro (opS A21_14 10 11 rfl rfl rfl) <| And.intro (retK K21_15 rfl) <| And.intro (seqK K21_16 K21_17 K21_18 rfl) <| And.intro (regK K21_17 A21_17 rfl) <| And.intro (nilK A21_17 11 rfl) <| And.intro (opS A21_17 0 1 rfl rfl rfl) <| And.intro (opS A21_17 1 2 rfl rfl rfl) <| And.intro (opS A21_17 2 3 rfl rfl rfl) <| And.intro (opS A21_17 3 4 rfl rfl rfl) <| And.intro (opSG A21_17 4 5 rfl rfl rfl rfl) <| And.intro (opSG A21_17 5 6 rfl rfl rfl rfl) <| And.intro (opSG A21_17 6 7 rfl rfl rfl rfl) <| And.intro (opSG A21_17 7 8 rfl rfl rfl rfl) <| And.intro (opSG A21_17 8 9 rfl rfl rfl rfl) <| And.intro (opS A21_17 9 10 rfl rfl rfl) <| And.intro (opS A21_17 10 11 rfl rfl rfl) <| And.intro (condK K21_18 K21_19 K21_22 rfl) <| And.intro (seqK K21_19 K21_20 K21_21 rfl) <| And.intro (regK K21_20 A21_20 rfl) <| And.intro (nilK A21_20 1 rfl) <| And.intro (opS A21_20 0 1 rfl rfl rfl) <| And.intro (retK K21_21 rfl) <| And.intro (skipK K21_22 rfl) <| And.intro (seqK K21_23 K21_24 K21_25 rfl) <| And.intro (nilX A21_24 11 rfl) <| And.intro (opSX A21_24 0 1 true rfl rfl rfl rfl) <| And.intro (opSX A21_24 1 2 true rfl rfl rfl rfl) <| And.intro (opSX A21_24 2 3 true rfl rfl rfl rfl) <| And.intro (opSX A21_24 3 4 true rfl rfl rfl rfl) <| And.intro (opSX A21_24 4 5 true rfl rfl rfl rfl) <| And.intro (opSX A21_24 5 6 true rfl rfl rfl rfl) <| And.intro (opSX A21_24 6 7 true rfl rfl rfl rfl) <| And.intro (opSX A21_24 7 8 true rfl rfl rfl rfl) <| And.intro (opSX A21_24 8 9 true rfl rfl rfl rfl) <| And.intro (opSX A21_24 9 10 false rfl rfl rfl rfl) <| And.intro (opSX A21_24 10 11 true rfl rfl rfl rfl) <| retK K21_25 rfl) := And.intro (opSG A21_14 8 9 rfl rfl rfl rfl) <| And.intro (opS A21_14 9 10 rfl rfl rfl) <| And.intro (opS A21_14 10 11 rfl rfl rfl) <| And.intro (retK K21_15 rfl) <| And.intro (seqK K21_16 K21_17 K21_18 rfl) <| And.intro (regK K21_17 A21_17 rfl) <| And.intro (nilK A21_17 11 rfl) <| And.intro (opS A21_17 0 1 rfl rfl rfl) <| And.intro (opS A21_17 1 2 rfl rfl rfl) <| And.intro (opS A21_17 2 3 rfl rfl rfl) <| And.intro (opS A21_17 3 4 rfl rfl rfl) <| And.intro (opSG A21_17 4 5 rfl rfl rfl rfl) <| And.intro (opSG A21_17 5 6 rfl rfl rfl rfl) <| And.intro (opSG A21_17 6 7 rfl rfl rfl rfl) <| And.intro (opSG A21_17 7 8 rfl rfl rfl rfl) <| And.intro (opSG A21_17 8 9 rfl rfl rfl rfl) <| And.intro (opS A21_17 9 10 rfl rfl rfl) <| And.intro (opS A21_17 10 11 rfl rfl rfl) <| And.intro (condK K21_18 K21_19 K21_22 rfl) <| And.intro (seqK K21_19 K21_20 K21_21 rfl) <| And.intro (regK K21_20 A21_20 rfl) <| And.intro (nilK A21_20 1 rfl) <| And.intro (opS A21_20 0 1 rfl rfl rfl) <| And.intro (retK K21_21 rfl) <| And.intro (skipK K21_22 rfl) <| And.intro (seqK K21_23 K21_24 K21_25 rfl) <| And.intro (nilX A21_24 11 rfl) <| And.intro (opSX A21_24 0 1 true rfl rfl rfl rfl) <| And.intro (opSX A21_24 1 2 true rfl rfl rfl rfl) <| And.intro (opSX A21_24 2 3 true rfl rfl rfl rfl) <| And.intro (opSX A21_24 3 4 true rfl rfl rfl rfl) <| And.intro (opSX A21_24 4 5 true rfl rfl rfl rfl) <| And.intro (opSX A21_24 5 6 true rfl rfl rfl rfl) <| And.intro (opSX A21_24 6 7 true rfl rfl rfl rfl) <| And.intro (opSX A21_24 7 8 true rfl rfl rfl rfl) <| And.intro (opSX A21_24 8 9 true rfl rfl rfl rfl) <| And.intro (opSX A21_24 9 10 false rfl rfl rfl rfl) <| And.intro (opSX A21_24 10 11 true rfl rfl rfl rfl) <| retK K21_25 rfl
theorem ty21 : type_of% (And.intro @fa41_0 <| And.intro @fa41_1 <| And.intro @fa41_2 <| And.intro @ix22 <| And.intro @ld23 <| And.intro @ld3 <| And.intro @ld39 <| And.intro @ld47 <| And.intro @ln22 <| And.intro @ln23 <| @fi21) := And.intro @fa41_0 <| And.intro @fa41_1 <| And.intro @fa41_2 <| And.intro @ix22 <| And.intro @ld23 <| And.intro @ld3 <| And.intro @ld39 <| And.intro @ld47 <| And.intro @ln22 <| And.intro @ln23 <| @fi21

noncomputable def K172_0 : Code := Try.f172.body.getD .skip
noncomputable def K172_1 : Code := lft K172_0
noncomputable def A172_1 : Array Oper := rops K172_1
noncomputable def K172_2 : Code := rgt K172_0
noncomputable def K172_3 : Code := lft K172_2
noncomputable def K172_4 : Code := lft K172_3
noncomputable def A172_4 : Array Oper := rops K172_4
noncomputable def K172_5 : Code := rgt K172_3
noncomputable def K172_6 : Code := lft K172_5
noncomputable def K172_7 : Code := lft K172_6
noncomputable def A172_7 : Array Oper := rops K172_7
noncomputable def K172_8 : Code := rgt K172_6
noncomputable def K172_9 : Code := rgt K172_5
noncomputable def K172_10 : Code := rgt K172_2
noncomputable def K172_11 : Code := lft K172_10
noncomputable def A172_11 : Array Oper := rops K172_11
noncomputable def K172_12 : Code := rgt K172_10
theorem body172 : Try.f172.body = some K172_0 := by kernel_rfl
theorem code172_0 : type_of% (And.intro (seqK K172_0 K172_1 K172_2 rfl) <| And.intro (regK K172_1 A172_1 rfl) <| And.intro (nilK A172_1 1 rfl) <| And.intro (opS A172_1 0 1 rfl rfl rfl) <| And.intro (seqK K172_2 K172_3 K172_10 rfl) <| And.intro (seqK K172_3 K172_4 K172_5 rfl) <| And.intro (regK K172_4 A172_4 rfl) <| And.intro (nilK A172_4 2 rfl) <| And.intro (opS A172_4 0 1 rfl rfl rfl) <| And.intro (opS A172_4 1 2 rfl rfl rfl) <| And.intro (condK K172_5 K172_6 K172_9 rfl) <| And.intro (seqK K172_6 K172_7 K172_8 rfl) <| And.intro (regK K172_7 A172_7 rfl) <| And.intro (nilK A172_7 1 rfl) <| And.intro (opS A172_7 0 1 rfl rfl rfl) <| And.intro (retK K172_8 rfl) <| And.intro (skipK K172_9 rfl) <| And.intro (seqK K172_10 K172_11 K172_12 rfl) <| And.intro (regK K172_11 A172_11 rfl) <| And.intro (nilK A172_11 4 rfl) <| And.intro (opS A172_11 0 1 rfl rfl rfl) <| And.intro (opS A172_11 1 2 rfl rfl rfl) <| And.intro (opS A172_11 2 3 rfl rfl rfl) <| And.intro (opS A172_11 3 4 rfl rfl rfl) <| retK K172_12 rfl) := And.intro (seqK K172_0 K172_1 K172_2 rfl) <| And.intro (regK K172_1 A172_1 rfl) <| And.intro (nilK A172_1 1 rfl) <| And.intro (opS A172_1 0 1 rfl rfl rfl) <| And.intro (seqK K172_2 K172_3 K172_10 rfl) <| And.intro (seqK K172_3 K172_4 K172_5 rfl) <| And.intro (regK K172_4 A172_4 rfl) <| And.intro (nilK A172_4 2 rfl) <| And.intro (opS A172_4 0 1 rfl rfl rfl) <| And.intro (opS A172_4 1 2 rfl rfl rfl) <| And.intro (condK K172_5 K172_6 K172_9 rfl) <| And.intro (seqK K172_6 K172_7 K172_8 rfl) <| And.intro (regK K172_7 A172_7 rfl) <| And.intro (nilK A172_7 1 rfl) <| And.intro (opS A172_7 0 1 rfl rfl rfl) <| And.intro (retK K172_8 rfl) <| And.intro (skipK K172_9 rfl) <| And.intro (seqK K172_10 K172_11 K172_12 rfl) <| And.intro (regK K172_11 A172_11 rfl) <| And.intro (nilK A172_11 4 rfl) <| And.intro (opS A172_11 0 1 rfl rfl rfl) <| And.intro (opS A172_11 1 2 rfl rfl rfl) <| And.intro (opS A172_11 2 3 rfl rfl rfl) <| And.intro (opS A172_11 3 4 rfl rfl rfl) <| retK K172_12 rfl
theorem ty172 : type_of% (And.intro @bs162 <| @fi172) := And.intro @bs162 <| @fi172
end Go.Proofs.Ytompindebndddaa
namespace Go.Proofs.Ytompindebndddaa
open Go.Am
set_option linter.unusedSimpArgs false
set_option linter.unusedVariables false
set_option maxRecDepth 100000
theorem pure_iu (a : Int) : pureRun Try.prog (Next.value <$> convert 3 176 (.int .i64 a)) = some (Next.value (.int .u64 (IntKind.u64.wrap a))) := by rfl
theorem pure_ui (a : Int) : pureRun Try.prog (Next.value <$> convert 176 3 (.int .u64 a)) = some (Next.value (.int .i64 (IntKind.i64.wrap a))) := by rfl
theorem bin_shr {T : Tab} {t : TypeId} {k kd : IntKind} {a b : Int} (hb : ¬ b < 0) : binA Try.prog T .shr t (.int k a) (.int kd b) = some (.int k (a.fdiv (2 ^ (min b.toNat k.bits)))) := by
  have h1 : ((T.desc t).bind fun d => eqNil d (.int k a) (.int kd b)) = none := by
    cases T.desc t with
    | none => rfl
    | some d => cases d <;> rfl
  have h2 : pureRun Try.prog (binOp .shr t (.int k a) (.int kd b)) = some (.int k (a.fdiv (2 ^ (min b.toNat k.bits)))) := by
    simp [binOp, Op.shift, hb, pr_pure]
  unfold binA
  have hf : binFast .shr (.int k a) (.int kd b) = none := rfl
  rw [hf]
  simp [h1, h2]
  exact ⟨⟨rfl, rfl⟩, rfl⟩
theorem w_conv {d} {s t ty : TypeId} {x : Operand} {pos af g} {kk : IntKind} {a : Int} {v : Value} {e : Env} {h : Heap} {K : Value → Heap → Prop} (hs : isSlice tab s = false) (ht : isSlice tab t = false) (hx : evalOperand e x = .int kk a) (hc : pureRun Try.prog (Next.value <$> convert s t (.int kk a)) = some (Next.value v)) (hv : plain v = true) : WOp Try.prog tab ov ⟨d, .convert s t x, ty, pos, af, g⟩ e h K = K v h := by
  rw [w_convert d ty pos af g e h K s t x hs ht]
  have hp : pureOp Try.prog e ⟨d, .convert s t x, ty, pos, af, g⟩ h = some (v, h) := by
    unfold pureOp
    simp [Op.operands, hx, execOp]
    refine ⟨rfl, ?_⟩
    rw [hc]
    simp [hv]
  rw [hp]
  rfl
end Go.Proofs.Ytompindebndddaa
namespace Go.Proofs.Ytompindebndddaa
open Go.Am
set_option linter.unusedSimpArgs false
set_option linter.unusedVariables false
set_option maxRecDepth 100000
set_option maxHeartbeats 0
theorem ok_search (w : Nat) (hn : w ≤ 1000) (fv : Value) (pr : Nat → Bool) (h : Heap) (hpf : ∀ (i : Nat) (hc : Heap) (K : Value → Heap → Prop), i < w → Ext h hc → (∀ h', Ext hc h' → K (.bool (pr i)) h') → callE Try.prog tab ov [.int .i64 i] hc K fv) (K : Value → Heap → Prop)
    (hk : ∀ (h' : Heap) (i : Nat), Ext h h' → i ≤ w → (0 < i → pr (i - 1) = false) → (i < w → pr i = true) → K (.int .i64 i) h') : Ok Try.prog tab ov 204 [.int .i64 w, fv] h K := by
  rw [lay_nil h]
  have z := Ext.refl h
  refine Ok.into rfl tab_fn204 body204 rfl (m := 24) rfl ?_
  simp -implicitDefEqProofs only [syms, symx, Nat.reduceAdd, Nat.reduceMul, Int.reduceLT, Int.reduceLE, Int.reduceAdd, Int.reduceSub, Int.reduceToNat, Int.reduceNeg, reduceIte, Nat.reduceGT, Nat.reduceLT, Nat.reduceLeDiff, code204_0, code204_1, ty204]
  obtain ⟨I1, hI1⟩ : ∃ I : Nat → Env → Heap → Prop, I = (fun n e h' => ∃ (lo hi : Nat) (h1 : Heap), h' = h1.lay [] h1.low ∧ Ext h h1 ∧ (n = hi - lo ∧ lo ≤ hi ∧ hi ≤ w ∧ (0 < lo → pr (lo - 1) = false) ∧ (hi < w → pr hi = true)) ∧ ∃ J : Nat → Value, e = (.int .i64 w :: fv :: J 2 :: J 3 :: J 4 :: .int .i64 lo :: .int .i64 hi :: J 7 :: J 8 :: J 9 :: J 10 :: J 11 :: J 12 :: J 13 :: J 14 :: J 15 :: J 16 :: J 17 :: J 18 :: J 19 :: J 20 :: J 21 :: J 22 :: J 23 :: J 24 :: J 25 :: [])) := ⟨_, rfl⟩
  refine W_loopN I1 _ (by rw [hI1]; exact ⟨0, w, _, rfl, z, ⟨rfl, by omega, by omega, by omega, by omega⟩, junk (by kernel_rfl)⟩) ?_
  intro n e h' hin
  rw [hI1] at hin
  obtain ⟨lo, hi, h1', rfl, z, hinv, J, rfl⟩ := hin
  obtain ⟨rfl, h1, h2, h3, h4⟩ := hinv
  simp -implicitDefEqProofs only [syms, symx, Nat.reduceAdd, Nat.reduceMul, Int.reduceLT, Int.reduceLE, Int.reduceAdd, Int.reduceSub, Int.reduceToNat, Int.reduceNeg, reduceIte, Nat.reduceGT, Nat.reduceLT, Nat.reduceLeDiff, code204_0, code204_1, ty204]
  refine forkD (fun hlt => ?_) (fun hlt => ?_)
  rotate_left
  · simp -implicitDefEqProofs only [syms, symx, Nat.reduceAdd, Nat.reduceMul, Int.reduceLT, Int.reduceLE, Int.reduceAdd, Int.reduceSub, Int.reduceToNat, Int.reduceNeg, reduceIte, Nat.reduceGT, Nat.reduceLT, Nat.reduceLeDiff, code204_0, code204_1, ty204]
    obtain rfl : lo = hi := by omega
    exact hk _ lo (z.upW _ _ (by omega)) h2 h3 h4
  have e1 : IntKind.i64.wrap ((lo : Int) + (hi : Int)) = ((lo + hi : Nat) : Int) := by rw [wrap_i64 (by omega) (by omega)]; omega
  have e2 : IntKind.u64.wrap ((lo + hi : Nat) : Int) = ((lo + hi : Nat) : Int) := by unfold IntKind.wrap; simp [IntKind.bits]; omega
  have e3 : IntKind.i64.wrap (((lo + hi) / 2 : Nat) : Int) = (((lo + hi) / 2 : Nat) : Int) := wrap_i64 (by omega) (by omega)
  have e4 : Int.fdiv ((lo + hi : Nat) : Int) (2 ^ (min (1 : Int).toNat (IntKind.bits .u64))) = (((lo + hi) / 2 : Nat) : Int) := by
    show Int.fdiv ((lo + hi : Nat) : Int) 2 = _
    rw [Int.fdiv_eq_ediv_of_nonneg _ (by omega)]
    omega
  simp -implicitDefEqProofs only [syms, symx, Nat.reduceAdd, Nat.reduceMul, Int.reduceLT, Int.reduceLE, Int.reduceAdd, Int.reduceSub, Int.reduceToNat, Int.reduceNeg, reduceIte, Nat.reduceGT, Nat.reduceLT, Nat.reduceLeDiff, code204_0, code204_1, ty204, e1]
  repeat' ((first
    | ((with_reducible first | apply forkD | apply forkB | apply forkN | apply forkNP | apply forkNot) <;> intro _)
    | ((with_reducible_and_instances apply unop_not); (· rfl))) <;> simp -implicitDefEqProofs only [syms, symx, Nat.reduceAdd, Nat.reduceMul, Int.reduceLT, Int.reduceLE, Int.reduceAdd, Int.reduceSub, Int.reduceToNat, Int.reduceNeg, reduceIte, Nat.reduceGT, Nat.reduceLT, Nat.reduceLeDiff, code204_0, code204_1, ty204, e1])
  rw [w_conv rfl rfl rfl (pure_iu _) rfl, e2]
  simp -implicitDefEqProofs only [syms, symx, Nat.reduceAdd, Nat.reduceMul, Int.reduceLT, Int.reduceLE, Int.reduceAdd, Int.reduceSub, Int.reduceToNat, Int.reduceNeg, reduceIte, Nat.reduceGT, Nat.reduceLT, Nat.reduceLeDiff, code204_0, code204_1, ty204, e1]
  repeat' ((first
    | ((with_reducible first | apply forkD | apply forkB | apply forkN | apply forkNP | apply forkNot) <;> intro _)
    | ((with_reducible_and_instances apply unop_not); (· rfl))) <;> simp -implicitDefEqProofs only [syms, symx, Nat.reduceAdd, Nat.reduceMul, Int.reduceLT, Int.reduceLE, Int.reduceAdd, Int.reduceSub, Int.reduceToNat, Int.reduceNeg, reduceIte, Nat.reduceGT, Nat.reduceLT, Nat.reduceLeDiff, code204_0, code204_1, ty204, e1])
  rw [bin_shr (by decide), e4]
  simp -implicitDefEqProofs only [syms, symx, Nat.reduceAdd, Nat.reduceMul, Int.reduceLT, Int.reduceLE, Int.reduceAdd, Int.reduceSub, Int.reduceToNat, Int.reduceNeg, reduceIte, Nat.reduceGT, Nat.reduceLT, Nat.reduceLeDiff, code204_0, code204_1, ty204, e1]
  repeat' ((first
    | ((with_reducible first | apply forkD | apply forkB | apply forkN | apply forkNP | apply forkNot) <;> intro _)
    | ((with_reducible_and_instances apply unop_not); (· rfl))) <;> simp -implicitDefEqProofs only [syms, symx, Nat.reduceAdd, Nat.reduceMul, Int.reduceLT, Int.reduceLE, Int.reduceAdd, Int.reduceSub, Int.reduceToNat, Int.reduceNeg, reduceIte, Nat.reduceGT, Nat.reduceLT, Nat.reduceLeDiff, code204_0, code204_1, ty204, e1])
  rw [w_conv rfl rfl rfl (pure_ui _) rfl, e3]
  simp -implicitDefEqProofs only [syms, symx, Nat.reduceAdd, Nat.reduceMul, Int.reduceLT, Int.reduceLE, Int.reduceAdd, Int.reduceSub, Int.reduceToNat, Int.reduceNeg, reduceIte, Nat.reduceGT, Nat.reduceLT, Nat.reduceLeDiff, code204_0, code204_1, ty204, e1]
  repeat' ((first
    | ((with_reducible first | apply forkD | apply forkB | apply forkN | apply forkNP | apply forkNot) <;> intro _)
    | ((with_reducible_and_instances apply unop_not); (· rfl))) <;> simp -implicitDefEqProofs only [syms, symx, Nat.reduceAdd, Nat.reduceMul, Int.reduceLT, Int.reduceLE, Int.reduceAdd, Int.reduceSub, Int.reduceToNat, Int.reduceNeg, reduceIte, Nat.reduceGT, Nat.reduceLT, Nat.reduceLeDiff, code204_0, code204_1, ty204, e1])
  refine hpf ((lo + hi) / 2) _ _ (by omega) (z.upW _ _ (by omega)) (fun h' x => ?_)
  ((skip); replace z := z.overW x (by (try simp only [lay_size, List.length_cons, List.length_nil]); omega); rw [lay_nil h'])
  have e5 : IntKind.i64.wrap ((((lo + hi) / 2 : Nat) : Int) + 1) = (((lo + hi) / 2 + 1 : Nat) : Int) := by rw [wrap_i64 (by omega) (by omega)]; omega
  cases hx : pr ((lo + hi) / 2)
  · simp -implicitDefEqProofs only [syms, symx, Nat.reduceAdd, Nat.reduceMul, Int.reduceLT, Int.reduceLE, Int.reduceAdd, Int.reduceSub, Int.reduceToNat, Int.reduceNeg, reduceIte, Nat.reduceGT, Nat.reduceLT, Nat.reduceLeDiff, code204_0, code204_1, ty204]
    repeat' ((first
      | ((with_reducible first | apply forkD | apply forkB | apply forkN | apply forkNP | apply forkNot) <;> intro _)
      | ((with_reducible_and_instances apply unop_not); (· rfl))) <;> simp -implicitDefEqProofs only [syms, symx, Nat.reduceAdd, Nat.reduceMul, Int.reduceLT, Int.reduceLE, Int.reduceAdd, Int.reduceSub, Int.reduceToNat, Int.reduceNeg, reduceIte, Nat.reduceGT, Nat.reduceLT, Nat.reduceLeDiff, code204_0, code204_1, ty204])
    rw [e5]
    (rw [hI1]; with_reducible refine loopN_normal (m := _) ?_ ⟨(lo + hi) / 2 + 1, hi, _, rfl, z, ⟨rfl, by omega, by omega, by intro _; simpa using hx, h4⟩, junk (by kernel_rfl)⟩; omega)
  · simp -implicitDefEqProofs only [syms, symx, Nat.reduceAdd, Nat.reduceMul, Int.reduceLT, Int.reduceLE, Int.reduceAdd, Int.reduceSub, Int.reduceToNat, Int.reduceNeg, reduceIte, Nat.reduceGT, Nat.reduceLT, Nat.reduceLeDiff, code204_0, code204_1, ty204]
    repeat' ((first
      | ((with_reducible first | apply forkD | apply forkB | apply forkN | apply forkNP | apply forkNot) <;> intro _)
      | ((with_reducible_and_instances apply unop_not); (· rfl))) <;> simp -implicitDefEqProofs only [syms, symx, Nat.reduceAdd, Nat.reduceMul, Int.reduceLT, Int.reduceLE, Int.reduceAdd, Int.reduceSub, Int.reduceToNat, Int.reduceNeg, reduceIte, Nat.reduceGT, Nat.reduceLT, Nat.reduceLeDiff, code204_0, code204_1, ty204])
    (rw [hI1]; with_reducible refine loopN_normal (m := _) ?_ ⟨lo, (lo + hi) / 2, _, rfl, z, ⟨rfl, by omega, by omega, h3, by intro _; exact hx⟩, junk (by kernel_rfl)⟩; omega)
end Go.Proofs.Ytompindebndddaa
