/- The code of some functions, node by node, for simp. Written by a program (mkcode.py). No condition. -/
import Derived.Test.YtompindebndddaaG17
import Derived.Test.YtompindebndddaaG14
import Derived.KernelRfl
import Derived.Test.YtompindebndddaaG16
import Derived.Test.YtompindebndddaaGInt
import Derived.Test.YtompindebndddaaG27
import Derived.Test.YtompindebndddaaG12
import Derived.Test.YtompindebndddaaRows
namespace Go.Proofs.Ytompindebndddaa
open Go.Am
set_option linter.unusedVariables false
set_option maxRecDepth 100000
noncomputable def K42_0 : Code := Try.f42.body.getD .skip
noncomputable def K42_1 : Code := lft K42_0
noncomputable def A42_1 : Array Oper := rops K42_1
noncomputable def K42_2 : Code := rgt K42_0
noncomputable def K42_3 : Code := lft K42_2
noncomputable def A42_3 : Array Oper := rops K42_3
noncomputable def K42_4 : Code := rgt K42_2
noncomputable def K42_5 : Code := lft K42_4
noncomputable def K42_6 : Code := lft K42_5
noncomputable def A42_6 : Array Oper := rops K42_6
noncomputable def K42_7 : Code := rgt K42_5
noncomputable def K42_8 : Code := lft K42_7
noncomputable def K42_9 : Code := lft K42_8
noncomputable def K42_10 : Code := lft K42_9
noncomputable def K42_11 : Code := lft K42_10
noncomputable def A42_11 : Array Oper := rops K42_11
noncomputable def K42_12 : Code := rgt K42_10
noncomputable def K42_13 : Code := lft K42_12
noncomputable def K42_14 : Code := rgt K42_12
noncomputable def K42_15 : Code := rgt K42_9
noncomputable def K42_16 : Code := lft K42_15
noncomputable def K42_17 : Code := lft K42_16
noncomputable def A42_17 : Array Oper := rops K42_17
noncomputable def K42_18 : Code := rgt K42_15
noncomputable def A42_18 : Array Oper := rops K42_18
noncomputable def K42_19 : Code := rgt K42_4
noncomputable def K42_20 : Code := lft K42_19
noncomputable def A42_20 : Array Oper := rops K42_20
noncomputable def K42_21 : Code := rgt K42_19
theorem body42 : Try.f42.body = some K42_0 := by kernel_rfl
theorem code42_0 : type_of% (And.intro (seqK K42_0 K42_1 K42_2 rfl) <| And.intro (regK K42_1 A42_1 rfl) <| And.intro (nilK A42_1 2 rfl) <| And.intro (opS A42_1 0 1 rfl rfl rfl) <| And.intro (opS A42_1 1 2 rfl rfl rfl) <| And.intro (seqK K42_2 K42_3 K42_4 rfl) <| And.intro (regK K42_3 A42_3 rfl) <| And.intro (nilK A42_3 11 rfl) <| And.intro (opS A42_3 0 1 rfl rfl rfl) <| And.intro (opS A42_3 1 2 rfl rfl rfl) <| And.intro (opS A42_3 2 3 rfl rfl rfl) <| And.intro (opS A42_3 3 4 rfl rfl rfl) <| And.intro (opS A42_3 4 5 rfl rfl rfl) <| And.intro (opSG A42_3 5 6 rfl rfl rfl rfl) <| And.intro (opSG A42_3 6 7 rfl rfl rfl rfl) <| And.intro (opSG A42_3 7 8 rfl rfl rfl rfl) <| And.intro (opSG A42_3 8 9 rfl rfl rfl rfl) <| And.intro (opS A42_3 9 10 rfl rfl rfl) <| And.intro (opS A42_3 10 11 rfl rfl rfl) <| And.intro (seqK K42_4 K42_5 K42_19 rfl) <| And.intro (seqK K42_5 K42_6 K42_7 rfl) <| And.intro (regK K42_6 A42_6 rfl) <| And.intro (nilK A42_6 1 rfl) <| And.intro (opS A42_6 0 1 rfl rfl rfl) <| And.intro (blkK K42_7 K42_8 rfl) <| And.intro (loopK K42_8 K42_9 rfl) <| And.intro (seqK K42_9 K42_10 K42_15 rfl) <| And.intro (seqK K42_10 K42_11 K42_12 rfl) <| And.intro (regK K42_11 A42_11 rfl) <| And.intro (nilK A42_11 2 rfl) <| And.intro (opS A42_11 0 1 rfl rfl rfl) <| And.intro (opS A42_11 1 2 rfl rfl rfl) <| And.intro (condK K42_12 K42_13 K42_14 rfl) <| And.intro (skipK K42_13 rfl) <| And.intro (exitK K42_14 rfl) <| And.intro (seqK K42_15 K42_16 K42_18 rfl) <| And.intro (blkK K42_16 K42_17 rfl) <| And.intro (regK K42_17 A42_17 rfl) <| And.intro (nilK A42_17 11 rfl) <| opS A42_17 0 1 rfl rfl rfl) := And.intro (seqK K42_0 K42_1 K42_2 rfl) <| And.intro (regK K42_1 A42_1 rfl) <| And.intro (nilK A42_1 2 rfl) <| And.intro (opS A42_1 0 1 rfl rfl rfl) <| And.intro (opS A42_1 1 2 rfl rfl rfl) <| And.intro (seqK K42_2 K42_3 K42_4 rfl) <| And.intro (regK K42_3 A42_3 rfl) <| And.intro (nilK A42_3 11 rfl) <| And.intro (opS A42_3 0 1 rfl rfl rfl) <| And.intro (opS A42_3 1 2 rfl rfl rfl) <| And.intro (opS A42_3 2 3 rfl rfl rfl) <| And.intro (opS A42_3 3 4 rfl rfl rfl) <| And.intro (opS A42_3 4 5 rfl rfl rfl) <| And.intro (opSG A42_3 5 6 rfl rfl rfl rfl) <| And.intro (opSG A42_3 6 7 rfl rfl rfl rfl) <| And.intro (opSG A42_3 7 8 rfl rfl rfl rfl) <| And.intro (opSG A42_3 8 9 rfl rfl rfl rfl) <| And.intro (opS A42_3 9 10 rfl rfl rfl) <| And.intro (opS A42_3 10 11 rfl rfl rfl) <| And.intro (seqK K42_4 K42_5 K42_19 rfl) <| And.intro (seqK K42_5 K42_6 K42_7 rfl) <| And.intro (regK K42_6 A42_6 rfl) <| And.intro (nilK A42_6 1 rfl) <| And.intro (opS A42_6 0 1 rfl rfl rfl) <| And.intro (blkK K42_7 K42_8 rfl) <| And.intro (loopK K42_8 K42_9 rfl) <| And.intro (seqK K42_9 K42_10 K42_15 rfl) <| And.intro (seqK K42_10 K42_11 K42_12 rfl) <| And.intro (regK K42_11 A42_11 rfl) <| And.intro (nilK A42_11 2 rfl) <| And.intro (opS A42_11 0 1 rfl rfl rfl) <| And.intro (opS A42_11 1 2 rfl rfl rfl) <| And.intro (condK K42_12 K42_13 K42_14 rfl) <| And.intro (skipK K42_13 rfl) <| And.intro (exitK K42_14 rfl) <| And.intro (seqK K42_15 K42_16 K42_18 rfl) <| And.intro (blkK K42_16 K42_17 rfl) <| And.intro (regK K42_17 A42_17 rfl) <| And.intro (nilK A42_17 11 rfl) <| opS A42_17 0 1 rfl rfl rfl
theorem code42_1 : type_of% (And.intro (opS A42_17 1 2 rfl rfl rfl) <| And.intro (opSG A42_17 2 3 rfl rfl rfl rfl) <| And.intro (opSG A42_17 3 4 rfl rfl rfl rfl) <| And.intro (opSG A42_17 4 5 rfl rfl rfl rfl) <| And.intro (opSG A42_17 5 6 rfl rfl rfl rfl) <| And.intro (opSG A42_17 6 7 rfl rfl rfl rfl) <| And.intro (opSG A42_17 7 8 rfl rfl rfl rfl) <| And.intro (opSG A42_17 8 9 rfl rfl rfl rfl) <| And.intro (opS A42_17 9 10 rfl rfl rfl) <| And.intro (opS A42_17 10 11 rfl rfl rfl) <| And.intro (regK K42_18 A42_18 rfl) <| And.intro (nilK A42_18 3 rfl) <| And.intro (opS A42_18 0 1 rfl rfl rfl) <| And.intro (opS A42_18 1 2 rfl rfl rfl) <| And.intro (opS A42_18 2 3 rfl rfl rfl) <| And.intro (seqK K42_19 K42_20 K42_21 rfl) <| And.intro (regK K42_20 A42_20 rfl) <| And.intro (nilK A42_20 2 rfl) <| And.intro (opS A42_20 0 1 rfl rfl rfl) <| And.intro (opS A42_20 1 2 rfl rfl rfl) <| retK K42_21 rfl) := And.intro (opS A42_17 1 2 rfl rfl rfl) <| And.intro (opSG A42_17 2 3 rfl rfl rfl rfl) <| And.intro (opSG A42_17 3 4 rfl rfl rfl rfl) <| And.intro (opSG A42_17 4 5 rfl rfl rfl rfl) <| And.intro (opSG A42_17 5 6 rfl rfl rfl rfl) <| And.intro (opSG A42_17 6 7 rfl rfl rfl rfl) <| And.intro (opSG A42_17 7 8 rfl rfl rfl rfl) <| And.intro (opSG A42_17 8 9 rfl rfl rfl rfl) <| And.intro (opS A42_17 9 10 rfl rfl rfl) <| And.intro (opS A42_17 10 11 rfl rfl rfl) <| And.intro (regK K42_18 A42_18 rfl) <| And.intro (nilK A42_18 3 rfl) <| And.intro (opS A42_18 0 1 rfl rfl rfl) <| And.intro (opS A42_18 1 2 rfl rfl rfl) <| And.intro (opS A42_18 2 3 rfl rfl rfl) <| And.intro (seqK K42_19 K42_20 K42_21 rfl) <| And.intro (regK K42_20 A42_20 rfl) <| And.intro (nilK A42_20 2 rfl) <| And.intro (opS A42_20 0 1 rfl rfl rfl) <| And.intro (opS A42_20 1 2 rfl rfl rfl) <| retK K42_21 rfl
theorem ty42 : type_of% (And.intro @fa36_1 <| And.intro @fa39_0 <| And.intro @fa39_1 <| And.intro @fa39_3 <| And.intro @ix37 <| And.intro @ld9 <| And.intro @ln9 <| @fi42) := And.intro @fa36_1 <| And.intro @fa39_0 <| And.intro @fa39_1 <| And.intro @fa39_3 <| And.intro @ix37 <| And.intro @ld9 <| And.intro @ln9 <| @fi42

noncomputable def K23_0 : Code := Try.f23.body.getD .skip
noncomputable def K23_1 : Code := lft K23_0
noncomputable def A23_1 : Array Oper := rops K23_1
noncomputable def K23_2 : Code := rgt K23_0
noncomputable def K23_3 : Code := lft K23_2
noncomputable def K23_4 : Code := lft K23_3
noncomputable def A23_4 : Array Oper := rops K23_4
noncomputable def K23_5 : Code := rgt K23_3
noncomputable def K23_6 : Code := lft K23_5
noncomputable def K23_7 : Code := lft K23_6
noncomputable def A23_7 : Array Oper := rops K23_7
noncomputable def K23_8 : Code := rgt K23_6
noncomputable def K23_9 : Code := rgt K23_5
noncomputable def K23_10 : Code := rgt K23_2
noncomputable def K23_11 : Code := lft K23_10
noncomputable def K23_12 : Code := lft K23_11
noncomputable def A23_12 : Array Oper := rops K23_12
noncomputable def K23_13 : Code := rgt K23_11
noncomputable def K23_14 : Code := lft K23_13
noncomputable def K23_15 : Code := lft K23_14
noncomputable def K23_16 : Code := lft K23_15
noncomputable def K23_17 : Code := lft K23_16
noncomputable def A23_17 : Array Oper := rops K23_17
noncomputable def K23_18 : Code := rgt K23_16
noncomputable def K23_19 : Code := lft K23_18
noncomputable def K23_20 : Code := rgt K23_18
noncomputable def K23_21 : Code := rgt K23_15
noncomputable def K23_22 : Code := lft K23_21
noncomputable def K23_23 : Code := lft K23_22
noncomputable def K23_24 : Code := lft K23_23
noncomputable def A23_24 : Array Oper := rops K23_24
noncomputable def K23_25 : Code := rgt K23_23
noncomputable def K23_26 : Code := lft K23_25
noncomputable def K23_27 : Code := lft K23_26
noncomputable def A23_27 : Array Oper := rops K23_27
noncomputable def K23_28 : Code := rgt K23_26
noncomputable def K23_29 : Code := rgt K23_25
noncomputable def K23_30 : Code := rgt K23_21
noncomputable def A23_30 : Array Oper := rops K23_30
noncomputable def K23_31 : Code := rgt K23_10
noncomputable def K23_32 : Code := lft K23_31
noncomputable def A23_32 : Array Oper := rops K23_32
noncomputable def K23_33 : Code := rgt K23_31
theorem body23 : Try.f23.body = some K23_0 := by kernel_rfl
theorem code23_0 : type_of% (And.intro (seqK K23_0 K23_1 K23_2 rfl) <| And.intro (regK K23_1 A23_1 rfl) <| And.intro (nilK A23_1 1 rfl) <| And.intro (opS A23_1 0 1 rfl rfl rfl) <| And.intro (seqK K23_2 K23_3 K23_10 rfl) <| And.intro (seqK K23_3 K23_4 K23_5 rfl) <| And.intro (regK K23_4 A23_4 rfl) <| And.intro (nilK A23_4 4 rfl) <| And.intro (opS A23_4 0 1 rfl rfl rfl) <| And.intro (opS A23_4 1 2 rfl rfl rfl) <| And.intro (opS A23_4 2 3 rfl rfl rfl) <| And.intro (opS A23_4 3 4 rfl rfl rfl) <| And.intro (condK K23_5 K23_6 K23_9 rfl) <| And.intro (seqK K23_6 K23_7 K23_8 rfl) <| And.intro (regK K23_7 A23_7 rfl) <| And.intro (nilK A23_7 1 rfl) <| And.intro (opS A23_7 0 1 rfl rfl rfl) <| And.intro (retK K23_8 rfl) <| And.intro (skipK K23_9 rfl) <| And.intro (seqK K23_10 K23_11 K23_31 rfl) <| And.intro (seqK K23_11 K23_12 K23_13 rfl) <| And.intro (regK K23_12 A23_12 rfl) <| And.intro (nilK A23_12 1 rfl) <| And.intro (opS A23_12 0 1 rfl rfl rfl) <| And.intro (blkK K23_13 K23_14 rfl) <| And.intro (loopK K23_14 K23_15 rfl) <| And.intro (seqK K23_15 K23_16 K23_21 rfl) <| And.intro (seqK K23_16 K23_17 K23_18 rfl) <| And.intro (regK K23_17 A23_17 rfl) <| And.intro (nilK A23_17 4 rfl) <| And.intro (opS A23_17 0 1 rfl rfl rfl) <| And.intro (opS A23_17 1 2 rfl rfl rfl) <| And.intro (opS A23_17 2 3 rfl rfl rfl) <| And.intro (opS A23_17 3 4 rfl rfl rfl) <| And.intro (condK K23_18 K23_19 K23_20 rfl) <| And.intro (skipK K23_19 rfl) <| And.intro (exitK K23_20 rfl) <| And.intro (seqK K23_21 K23_22 K23_30 rfl) <| And.intro (blkK K23_22 K23_23 rfl) <| seqK K23_23 K23_24 K23_25 rfl) := And.intro (seqK K23_0 K23_1 K23_2 rfl) <| And.intro (regK K23_1 A23_1 rfl) <| And.intro (nilK A23_1 1 rfl) <| And.intro (opS A23_1 0 1 rfl rfl rfl) <| And.intro (seqK K23_2 K23_3 K23_10 rfl) <| And.intro (seqK K23_3 K23_4 K23_5 rfl) <| And.intro (regK K23_4 A23_4 rfl) <| And.intro (nilK A23_4 4 rfl) <| And.intro (opS A23_4 0 1 rfl rfl rfl) <| And.intro (opS A23_4 1 2 rfl rfl rfl) <| And.intro (opS A23_4 2 3 rfl rfl rfl) <| And.intro (opS A23_4 3 4 rfl rfl rfl) <| And.intro (condK K23_5 K23_6 K23_9 rfl) <| And.intro (seqK K23_6 K23_7 K23_8 rfl) <| And.intro (regK K23_7 A23_7 rfl) <| And.intro (nilK A23_7 1 rfl) <| And.intro (opS A23_7 0 1 rfl rfl rfl) <| And.intro (retK K23_8 rfl) <| And.intro (skipK K23_9 rfl) <| And.intro (seqK K23_10 K23_11 K23_31 rfl) <| And.intro (seqK K23_11 K23_12 K23_13 rfl) <| And.intro (regK K23_12 A23_12 rfl) <| And.intro (nilK A23_12 1 rfl) <| And.intro (opS A23_12 0 1 rfl rfl rfl) <| And.intro (blkK K23_13 K23_14 rfl) <| And.intro (loopK K23_14 K23_15 rfl) <| And.intro (seqK K23_15 K23_16 K23_21 rfl) <| And.intro (seqK K23_16 K23_17 K23_18 rfl) <| And.intro (regK K23_17 A23_17 rfl) <| And.intro (nilK A23_17 4 rfl) <| And.intro (opS A23_17 0 1 rfl rfl rfl) <| And.intro (opS A23_17 1 2 rfl rfl rfl) <| And.intro (opS A23_17 2 3 rfl rfl rfl) <| And.intro (opS A23_17 3 4 rfl rfl rfl) <| And.intro (condK K23_18 K23_19 K23_20 rfl) <| And.intro (skipK K23_19 rfl) <| And.intro (exitK K23_20 rfl) <| And.intro (seqK K23_21 K23_22 K23_30 rfl) <| And.intro (blkK K23_22 K23_23 rfl) <| seqK K23_23 K23_24 K23_25 rfl
theorem code23_1 : type_of% (And.intro (regK K23_24 A23_24 rfl) <| And.intro (nilK A23_24 6 rfl) <| And.intro (opS A23_24 0 1 rfl rfl rfl) <| And.intro (opS A23_24 1 2 rfl rfl rfl) <| And.intro (opS A23_24 2 3 rfl rfl rfl) <| And.intro (opS A23_24 3 4 rfl rfl rfl) <| And.intro (opS A23_24 4 5 rfl rfl rfl) <| And.intro (opS A23_24 5 6 rfl rfl rfl) <| And.intro (condK K23_25 K23_26 K23_29 rfl) <| And.intro (seqK K23_26 K23_27 K23_28 rfl) <| And.intro (regK K23_27 A23_27 rfl) <| And.intro (nilK A23_27 1 rfl) <| And.intro (opS A23_27 0 1 rfl rfl rfl) <| And.intro (retK K23_28 rfl) <| And.intro (skipK K23_29 rfl) <| And.intro (regK K23_30 A23_30 rfl) <| And.intro (nilK A23_30 3 rfl) <| And.intro (opS A23_30 0 1 rfl rfl rfl) <| And.intro (opS A23_30 1 2 rfl rfl rfl) <| And.intro (opS A23_30 2 3 rfl rfl rfl) <| And.intro (seqK K23_31 K23_32 K23_33 rfl) <| And.intro (regK K23_32 A23_32 rfl) <| And.intro (nilK A23_32 1 rfl) <| And.intro (opS A23_32 0 1 rfl rfl rfl) <| retK K23_33 rfl) := And.intro (regK K23_24 A23_24 rfl) <| And.intro (nilK A23_24 6 rfl) <| And.intro (opS A23_24 0 1 rfl rfl rfl) <| And.intro (opS A23_24 1 2 rfl rfl rfl) <| And.intro (opS A23_24 2 3 rfl rfl rfl) <| And.intro (opS A23_24 3 4 rfl rfl rfl) <| And.intro (opS A23_24 4 5 rfl rfl rfl) <| And.intro (opS A23_24 5 6 rfl rfl rfl) <| And.intro (condK K23_25 K23_26 K23_29 rfl) <| And.intro (seqK K23_26 K23_27 K23_28 rfl) <| And.intro (regK K23_27 A23_27 rfl) <| And.intro (nilK A23_27 1 rfl) <| And.intro (opS A23_27 0 1 rfl rfl rfl) <| And.intro (retK K23_28 rfl) <| And.intro (skipK K23_29 rfl) <| And.intro (regK K23_30 A23_30 rfl) <| And.intro (nilK A23_30 3 rfl) <| And.intro (opS A23_30 0 1 rfl rfl rfl) <| And.intro (opS A23_30 1 2 rfl rfl rfl) <| And.intro (opS A23_30 2 3 rfl rfl rfl) <| And.intro (seqK K23_31 K23_32 K23_33 rfl) <| And.intro (regK K23_32 A23_32 rfl) <| And.intro (nilK A23_32 1 rfl) <| And.intro (opS A23_32 0 1 rfl rfl rfl) <| retK K23_33 rfl
theorem ty23 : type_of% (And.intro @ix23 <| And.intro @ld39 <| And.intro @ln23 <| @fi23) := And.intro @ix23 <| And.intro @ld39 <| And.intro @ln23 <| @fi23

noncomputable def K46_0 : Code := Try.f46.body.getD .skip
noncomputable def K46_1 : Code := lft K46_0
noncomputable def A46_1 : Array Oper := rops K46_1
noncomputable def K46_2 : Code := rgt K46_0
noncomputable def K46_3 : Code := lft K46_2
noncomputable def K46_4 : Code := lft K46_3
noncomputable def A46_4 : Array Oper := rops K46_4
noncomputable def K46_5 : Code := rgt K46_3
noncomputable def K46_6 : Code := lft K46_5
noncomputable def K46_7 : Code := lft K46_6
noncomputable def K46_8 : Code := lft K46_7
noncomputable def K46_9 : Code := lft K46_8
noncomputable def A46_9 : Array Oper := rops K46_9
noncomputable def K46_10 : Code := rgt K46_8
noncomputable def K46_11 : Code := lft K46_10
noncomputable def K46_12 : Code := rgt K46_10
noncomputable def K46_13 : Code := rgt K46_7
noncomputable def K46_14 : Code := lft K46_13
noncomputable def K46_15 : Code := lft K46_14
noncomputable def K46_16 : Code := lft K46_15
noncomputable def K46_17 : Code := lft K46_16
noncomputable def A46_17 : Array Oper := rops K46_17
noncomputable def K46_18 : Code := rgt K46_16
noncomputable def K46_19 : Code := lft K46_18
noncomputable def K46_20 : Code := lft K46_19
noncomputable def A46_20 : Array Oper := rops K46_20
noncomputable def K46_21 : Code := rgt K46_19
noncomputable def K46_22 : Code := rgt K46_18
noncomputable def K46_23 : Code := rgt K46_15
noncomputable def K46_24 : Code := lft K46_23
noncomputable def K46_25 : Code := lft K46_24
noncomputable def A46_25 : Array Oper := rops K46_25
noncomputable def K46_26 : Code := rgt K46_24
noncomputable def K46_27 : Code := lft K46_26
noncomputable def K46_28 : Code := lft K46_27
noncomputable def K46_29 : Code := lft K46_28
noncomputable def K46_30 : Code := lft K46_29
noncomputable def A46_30 : Array Oper := rops K46_30
noncomputable def K46_31 : Code := rgt K46_29
noncomputable def K46_32 : Code := lft K46_31
noncomputable def K46_33 : Code := rgt K46_31
noncomputable def K46_34 : Code := rgt K46_28
noncomputable def K46_35 : Code := lft K46_34
noncomputable def K46_36 : Code := lft K46_35
noncomputable def K46_37 : Code := lft K46_36
noncomputable def A46_37 : Array Oper := rops K46_37
noncomputable def K46_38 : Code := rgt K46_36
noncomputable def K46_39 : Code := lft K46_38
noncomputable def K46_40 : Code := lft K46_39
noncomputable def A46_40 : Array Oper := rops K46_40
noncomputable def K46_41 : Code := rgt K46_39
noncomputable def K46_42 : Code := lft K46_41
noncomputable def K46_43 : Code := lft K46_42
noncomputable def A46_43 : Array Oper := rops K46_43
noncomputable def K46_44 : Code := rgt K46_42
noncomputable def K46_45 : Code := rgt K46_41
noncomputable def K46_46 : Code := rgt K46_38
noncomputable def K46_47 : Code := lft K46_46
noncomputable def A46_47 : Array Oper := rops K46_47
noncomputable def K46_48 : Code := rgt K46_46
noncomputable def K46_49 : Code := lft K46_48
noncomputable def K46_50 : Code := lft K46_49
noncomputable def K46_51 : Code := lft K46_50
noncomputable def K46_52 : Code := lft K46_51
noncomputable def A46_52 : Array Oper := rops K46_52
noncomputable def K46_53 : Code := rgt K46_51
noncomputable def K46_54 : Code := lft K46_53
noncomputable def K46_55 : Code := rgt K46_53
noncomputable def K46_56 : Code := rgt K46_50
noncomputable def K46_57 : Code := lft K46_56
noncomputable def K46_58 : Code := lft K46_57
noncomputable def K46_59 : Code := lft K46_58
noncomputable def A46_59 : Array Oper := rops K46_59
noncomputable def K46_60 : Code := rgt K46_58
noncomputable def K46_61 : Code := lft K46_60
noncomputable def K46_62 : Code := lft K46_61
noncomputable def A46_62 : Array Oper := rops K46_62
noncomputable def K46_63 : Code := rgt K46_61
noncomputable def K46_64 : Code := rgt K46_60
noncomputable def K46_65 : Code := rgt K46_56
noncomputable def A46_65 : Array Oper := rops K46_65
noncomputable def K46_66 : Code := rgt K46_34
noncomputable def A46_66 : Array Oper := rops K46_66
noncomputable def K46_67 : Code := rgt K46_23
noncomputable def K46_68 : Code := lft K46_67
noncomputable def A46_68 : Array Oper := rops K46_68
noncomputable def K46_69 : Code := rgt K46_67
noncomputable def K46_70 : Code := lft K46_69
noncomputable def A46_70 : Array Oper := rops K46_70
noncomputable def K46_71 : Code := rgt K46_69
noncomputable def K46_72 : Code := lft K46_71
noncomputable def K46_73 : Code := lft K46_72
noncomputable def K46_74 : Code := lft K46_73
noncomputable def K46_75 : Code := lft K46_74
noncomputable def A46_75 : Array Oper := rops K46_75
noncomputable def K46_76 : Code := rgt K46_74
noncomputable def K46_77 : Code := lft K46_76
noncomputable def K46_78 : Code := rgt K46_76
noncomputable def K46_79 : Code := rgt K46_73
noncomputable def K46_80 : Code := lft K46_79
noncomputable def K46_81 : Code := lft K46_80
noncomputable def K46_82 : Code := lft K46_81
noncomputable def A46_82 : Array Oper := rops K46_82
noncomputable def K46_83 : Code := rgt K46_81
noncomputable def K46_84 : Code := lft K46_83
noncomputable def K46_85 : Code := lft K46_84
noncomputable def A46_85 : Array Oper := rops K46_85
noncomputable def K46_86 : Code := rgt K46_84
noncomputable def K46_87 : Code := rgt K46_83
noncomputable def K46_88 : Code := rgt K46_79
noncomputable def A46_88 : Array Oper := rops K46_88
noncomputable def K46_89 : Code := rgt K46_13
noncomputable def A46_89 : Array Oper := rops K46_89
noncomputable def K46_90 : Code := rgt K46_2
noncomputable def K46_91 : Code := lft K46_90
noncomputable def A46_91 : Array Oper := rops K46_91
noncomputable def K46_92 : Code := rgt K46_90
theorem body46 : Try.f46.body = some K46_0 := by kernel_rfl
theorem D46_40 : DrawK K46_40 A46_40 := drawK rfl (by kernel_rfl)
theorem D46_68 : DrawK K46_68 A46_68 := drawK rfl (by kernel_rfl)
theorem code46_0 : type_of% (And.intro (seqK K46_0 K46_1 K46_2 rfl) <| And.intro (regK K46_1 A46_1 rfl) <| And.intro (nilK A46_1 1 rfl) <| And.intro (opS A46_1 0 1 rfl rfl rfl) <| And.intro (seqK K46_2 K46_3 K46_90 rfl) <| And.intro (seqK K46_3 K46_4 K46_5 rfl) <| And.intro (regK K46_4 A46_4 rfl) <| And.intro (nilK A46_4 1 rfl) <| And.intro (opS A46_4 0 1 rfl rfl rfl) <| And.intro (blkK K46_5 K46_6 rfl) <| And.intro (loopK K46_6 K46_7 rfl) <| And.intro (seqK K46_7 K46_8 K46_13 rfl) <| And.intro (seqK K46_8 K46_9 K46_10 rfl) <| And.intro (regK K46_9 A46_9 rfl) <| And.intro (nilK A46_9 4 rfl) <| And.intro (opS A46_9 0 1 rfl rfl rfl) <| And.intro (opS A46_9 1 2 rfl rfl rfl) <| And.intro (opS A46_9 2 3 rfl rfl rfl) <| And.intro (opS A46_9 3 4 rfl rfl rfl) <| And.intro (condK K46_10 K46_11 K46_12 rfl) <| And.intro (skipK K46_11 rfl) <| And.intro (exitK K46_12 rfl) <| And.intro (seqK K46_13 K46_14 K46_89 rfl) <| And.intro (blkK K46_14 K46_15 rfl) <| And.intro (seqK K46_15 K46_16 K46_23 rfl) <| And.intro (seqK K46_16 K46_17 K46_18 rfl) <| And.intro (regK K46_17 A46_17 rfl) <| And.intro (nilK A46_17 14 rfl) <| And.intro (opS A46_17 0 1 rfl rfl rfl) <| And.intro (opS A46_17 1 2 rfl rfl rfl) <| And.intro (opS A46_17 2 3 rfl rfl rfl) <| And.intro (opS A46_17 3 4 rfl rfl rfl) <| And.intro (opS A46_17 4 5 rfl rfl rfl) <| And.intro (opS A46_17 5 6 rfl rfl rfl) <| And.intro (opS A46_17 6 7 rfl rfl rfl) <| And.intro (opSG A46_17 7 8 rfl rfl rfl rfl) <| And.intro (opSG A46_17 8 9 rfl rfl rfl rfl) <| And.intro (opSG A46_17 9 10 rfl rfl rfl rfl) <| And.intro (opSG A46_17 10 11 rfl rfl rfl rfl) <| opSG A46_17 11 12 rfl rfl rfl rfl) := And.intro (seqK K46_0 K46_1 K46_2 rfl) <| And.intro (regK K46_1 A46_1 rfl) <| And.intro (nilK A46_1 1 rfl) <| And.intro (opS A46_1 0 1 rfl rfl rfl) <| And.intro (seqK K46_2 K46_3 K46_90 rfl) <| And.intro (seqK K46_3 K46_4 K46_5 rfl) <| And.intro (regK K46_4 A46_4 rfl) <| And.intro (nilK A46_4 1 rfl) <| And.intro (opS A46_4 0 1 rfl rfl rfl) <| And.intro (blkK K46_5 K46_6 rfl) <| And.intro (loopK K46_6 K46_7 rfl) <| And.intro (seqK K46_7 K46_8 K46_13 rfl) <| And.intro (seqK K46_8 K46_9 K46_10 rfl) <| And.intro (regK K46_9 A46_9 rfl) <| And.intro (nilK A46_9 4 rfl) <| And.intro (opS A46_9 0 1 rfl rfl rfl) <| And.intro (opS A46_9 1 2 rfl rfl rfl) <| And.intro (opS A46_9 2 3 rfl rfl rfl) <| And.intro (opS A46_9 3 4 rfl rfl rfl) <| And.intro (condK K46_10 K46_11 K46_12 rfl) <| And.intro (skipK K46_11 rfl) <| And.intro (exitK K46_12 rfl) <| And.intro (seqK K46_13 K46_14 K46_89 rfl) <| And.intro (blkK K46_14 K46_15 rfl) <| And.intro (seqK K46_15 K46_16 K46_23 rfl) <| And.intro (seqK K46_16 K46_17 K46_18 rfl) <| And.intro (regK K46_17 A46_17 rfl) <| And.intro (nilK A46_17 14 rfl) <| And.intro (opS A46_17 0 1 rfl rfl rfl) <| And.intro (opS A46_17 1 2 rfl rfl rfl) <| And.intro (opS A46_17 2 3 rfl rfl rfl) <| And.intro (opS A46_17 3 4 rfl rfl rfl) <| And.intro (opS A46_17 4 5 rfl rfl rfl) <| And.intro (opS A46_17 5 6 rfl rfl rfl) <| And.intro (opS A46_17 6 7 rfl rfl rfl) <| And.intro (opSG A46_17 7 8 rfl rfl rfl rfl) <| And.intro (opSG A46_17 8 9 rfl rfl rfl rfl) <| And.intro (opSG A46_17 9 10 rfl rfl rfl rfl) <| And.intro (opSG A46_17 10 11 rfl rfl rfl rfl) <| opSG A46_17 11 12 rfl rfl rfl rfl
theorem code46_1 : type_of% (And.intro (opSG A46_17 12 13 rfl rfl rfl rfl) <| And.intro (opS A46_17 13 14 rfl rfl rfl) <| And.intro (condK K46_18 K46_19 K46_22 rfl) <| And.intro (seqK K46_19 K46_20 K46_21 rfl) <| And.intro (regK K46_20 A46_20 rfl) <| And.intro (nilK A46_20 1 rfl) <| And.intro (opS A46_20 0 1 rfl rfl rfl) <| And.intro (retK K46_21 rfl) <| And.intro (skipK K46_22 rfl) <| And.intro (seqK K46_23 K46_24 K46_67 rfl) <| And.intro (seqK K46_24 K46_25 K46_26 rfl) <| And.intro (regK K46_25 A46_25 rfl) <| And.intro (nilK A46_25 1 rfl) <| And.intro (opS A46_25 0 1 rfl rfl rfl) <| And.intro (blkK K46_26 K46_27 rfl) <| And.intro (loopK K46_27 K46_28 rfl) <| And.intro (seqK K46_28 K46_29 K46_34 rfl) <| And.intro (seqK K46_29 K46_30 K46_31 rfl) <| And.intro (regK K46_30 A46_30 rfl) <| And.intro (nilK A46_30 2 rfl) <| And.intro (opS A46_30 0 1 rfl rfl rfl) <| And.intro (opS A46_30 1 2 rfl rfl rfl) <| And.intro (condK K46_31 K46_32 K46_33 rfl) <| And.intro (skipK K46_32 rfl) <| And.intro (exitK K46_33 rfl) <| And.intro (seqK K46_34 K46_35 K46_66 rfl) <| And.intro (blkK K46_35 K46_36 rfl) <| And.intro (seqK K46_36 K46_37 K46_38 rfl) <| And.intro (regK K46_37 A46_37 rfl) <| And.intro (nilK A46_37 9 rfl) <| And.intro (opS A46_37 0 1 rfl rfl rfl) <| And.intro (opS A46_37 1 2 rfl rfl rfl) <| And.intro (opS A46_37 2 3 rfl rfl rfl) <| And.intro (opS A46_37 3 4 rfl rfl rfl) <| And.intro (opS A46_37 4 5 rfl rfl rfl) <| And.intro (opS A46_37 5 6 rfl rfl rfl) <| And.intro (opS A46_37 6 7 rfl rfl rfl) <| And.intro (opS A46_37 7 8 rfl rfl rfl) <| And.intro (opN A46_37 8 9 rfl rfl rfl) <| seqK K46_38 K46_39 K46_46 rfl) := And.intro (opSG A46_17 12 13 rfl rfl rfl rfl) <| And.intro (opS A46_17 13 14 rfl rfl rfl) <| And.intro (condK K46_18 K46_19 K46_22 rfl) <| And.intro (seqK K46_19 K46_20 K46_21 rfl) <| And.intro (regK K46_20 A46_20 rfl) <| And.intro (nilK A46_20 1 rfl) <| And.intro (opS A46_20 0 1 rfl rfl rfl) <| And.intro (retK K46_21 rfl) <| And.intro (skipK K46_22 rfl) <| And.intro (seqK K46_23 K46_24 K46_67 rfl) <| And.intro (seqK K46_24 K46_25 K46_26 rfl) <| And.intro (regK K46_25 A46_25 rfl) <| And.intro (nilK A46_25 1 rfl) <| And.intro (opS A46_25 0 1 rfl rfl rfl) <| And.intro (blkK K46_26 K46_27 rfl) <| And.intro (loopK K46_27 K46_28 rfl) <| And.intro (seqK K46_28 K46_29 K46_34 rfl) <| And.intro (seqK K46_29 K46_30 K46_31 rfl) <| And.intro (regK K46_30 A46_30 rfl) <| And.intro (nilK A46_30 2 rfl) <| And.intro (opS A46_30 0 1 rfl rfl rfl) <| And.intro (opS A46_30 1 2 rfl rfl rfl) <| And.intro (condK K46_31 K46_32 K46_33 rfl) <| And.intro (skipK K46_32 rfl) <| And.intro (exitK K46_33 rfl) <| And.intro (seqK K46_34 K46_35 K46_66 rfl) <| And.intro (blkK K46_35 K46_36 rfl) <| And.intro (seqK K46_36 K46_37 K46_38 rfl) <| And.intro (regK K46_37 A46_37 rfl) <| And.intro (nilK A46_37 9 rfl) <| And.intro (opS A46_37 0 1 rfl rfl rfl) <| And.intro (opS A46_37 1 2 rfl rfl rfl) <| And.intro (opS A46_37 2 3 rfl rfl rfl) <| And.intro (opS A46_37 3 4 rfl rfl rfl) <| And.intro (opS A46_37 4 5 rfl rfl rfl) <| And.intro (opS A46_37 5 6 rfl rfl rfl) <| And.intro (opS A46_37 6 7 rfl rfl rfl) <| And.intro (opS A46_37 7 8 rfl rfl rfl) <| And.intro (opN A46_37 8 9 rfl rfl rfl) <| seqK K46_38 K46_39 K46_46 rfl
theorem code46_2 : type_of% (And.intro (seqK K46_39 K46_40 K46_41 rfl) <| And.intro (nilX A46_40 41 rfl) <| And.intro (opSX A46_40 0 1 true rfl rfl rfl rfl) <| And.intro (opSX A46_40 1 2 true rfl rfl rfl rfl) <| And.intro (opSX A46_40 2 3 true rfl rfl rfl rfl) <| And.intro (opSX A46_40 3 4 true rfl rfl rfl rfl) <| And.intro (opSX A46_40 4 5 true rfl rfl rfl rfl) <| And.intro (opSX A46_40 5 6 true rfl rfl rfl rfl) <| And.intro (opSX A46_40 6 7 true rfl rfl rfl rfl) <| And.intro (opSX A46_40 7 8 true rfl rfl rfl rfl) <| And.intro (opSY A46_40 8 9 true rfl rfl rfl rfl rfl) <| And.intro (opSY A46_40 9 10 true rfl rfl rfl rfl rfl) <| And.intro (opSY A46_40 10 11 true rfl rfl rfl rfl rfl) <| And.intro (opSX A46_40 11 12 true rfl rfl rfl rfl) <| And.intro (opSX A46_40 12 13 true rfl rfl rfl rfl) <| And.intro (opSY A46_40 13 14 true rfl rfl rfl rfl rfl) <| And.intro (opSY A46_40 14 15 true rfl rfl rfl rfl rfl) <| And.intro (opSY A46_40 15 16 true rfl rfl rfl rfl rfl) <| And.intro (opSY A46_40 16 17 true rfl rfl rfl rfl rfl) <| And.intro (opSY A46_40 17 18 true rfl rfl rfl rfl rfl) <| And.intro (opSY A46_40 18 19 true rfl rfl rfl rfl rfl) <| And.intro (opSY A46_40 19 20 true rfl rfl rfl rfl rfl) <| And.intro (opSY A46_40 20 21 true rfl rfl rfl rfl rfl) <| And.intro (opSY A46_40 21 22 true rfl rfl rfl rfl rfl) <| And.intro (opSY A46_40 22 23 true rfl rfl rfl rfl rfl) <| And.intro (opSY A46_40 23 24 true rfl rfl rfl rfl rfl) <| And.intro (opSY A46_40 24 25 true rfl rfl rfl rfl rfl) <| And.intro (opSY A46_40 25 26 true rfl rfl rfl rfl rfl) <| And.intro (opSY A46_40 26 27 true rfl rfl rfl rfl rfl) <| And.intro (opSY A46_40 27 28 true rfl rfl rfl rfl rfl) <| And.intro (opSY A46_40 28 29 true rfl rfl rfl rfl rfl) <| And.intro (opSY A46_40 29 30 true rfl rfl rfl rfl rfl) <| And.intro (opSY A46_40 30 31 true rfl rfl rfl rfl rfl) <| And.intro (opSY A46_40 31 32 true rfl rfl rfl rfl rfl) <| And.intro (opSY A46_40 32 33 true rfl rfl rfl rfl rfl) <| And.intro (opSY A46_40 33 34 true rfl rfl rfl rfl rfl) <| And.intro (opSY A46_40 34 35 true rfl rfl rfl rfl rfl) <| And.intro (opSY A46_40 35 36 true rfl rfl rfl rfl rfl) <| And.intro (opSY A46_40 36 37 true rfl rfl rfl rfl rfl) <| opSY A46_40 37 38 true rfl rfl rfl rfl rfl) := And.intro (seqK K46_39 K46_40 K46_41 rfl) <| And.intro (nilX A46_40 41 rfl) <| And.intro (opSX A46_40 0 1 true rfl rfl rfl rfl) <| And.intro (opSX A46_40 1 2 true rfl rfl rfl rfl) <| And.intro (opSX A46_40 2 3 true rfl rfl rfl rfl) <| And.intro (opSX A46_40 3 4 true rfl rfl rfl rfl) <| And.intro (opSX A46_40 4 5 true rfl rfl rfl rfl) <| And.intro (opSX A46_40 5 6 true rfl rfl rfl rfl) <| And.intro (opSX A46_40 6 7 true rfl rfl rfl rfl) <| And.intro (opSX A46_40 7 8 true rfl rfl rfl rfl) <| And.intro (opSY A46_40 8 9 true rfl rfl rfl rfl rfl) <| And.intro (opSY A46_40 9 10 true rfl rfl rfl rfl rfl) <| And.intro (opSY A46_40 10 11 true rfl rfl rfl rfl rfl) <| And.intro (opSX A46_40 11 12 true rfl rfl rfl rfl) <| And.intro (opSX A46_40 12 13 true rfl rfl rfl rfl) <| And.intro (opSY A46_40 13 14 true rfl rfl rfl rfl rfl) <| And.intro (opSY A46_40 14 15 true rfl rfl rfl rfl rfl) <| And.intro (opSY A46_40 15 16 true rfl rfl rfl rfl rfl) <| And.intro (opSY A46_40 16 17 true rfl rfl rfl rfl rfl) <| And.intro (opSY A46_40 17 18 true rfl rfl rfl rfl rfl) <| And.intro (opSY A46_40 18 19 true rfl rfl rfl rfl rfl) <| And.intro (opSY A46_40 19 20 true rfl rfl rfl rfl rfl) <| And.intro (opSY A46_40 20 21 true rfl rfl rfl rfl rfl) <| And.intro (opSY A46_40 21 22 true rfl rfl rfl rfl rfl) <| And.intro (opSY A46_40 22 23 true rfl rfl rfl rfl rfl) <| And.intro (opSY A46_40 23 24 true rfl rfl rfl rfl rfl) <| And.intro (opSY A46_40 24 25 true rfl rfl rfl rfl rfl) <| And.intro (opSY A46_40 25 26 true rfl rfl rfl rfl rfl) <| And.intro (opSY A46_40 26 27 true rfl rfl rfl rfl rfl) <| And.intro (opSY A46_40 27 28 true rfl rfl rfl rfl rfl) <| And.intro (opSY A46_40 28 29 true rfl rfl rfl rfl rfl) <| And.intro (opSY A46_40 29 30 true rfl rfl rfl rfl rfl) <| And.intro (opSY A46_40 30 31 true rfl rfl rfl rfl rfl) <| And.intro (opSY A46_40 31 32 true rfl rfl rfl rfl rfl) <| And.intro (opSY A46_40 32 33 true rfl rfl rfl rfl rfl) <| And.intro (opSY A46_40 33 34 true rfl rfl rfl rfl rfl) <| And.intro (opSY A46_40 34 35 true rfl rfl rfl rfl rfl) <| And.intro (opSY A46_40 35 36 true rfl rfl rfl rfl rfl) <| And.intro (opSY A46_40 36 37 true rfl rfl rfl rfl rfl) <| opSY A46_40 37 38 true rfl rfl rfl rfl rfl
theorem code46_3 : type_of% (And.intro (opSY A46_40 38 39 true rfl rfl rfl rfl rfl) <| And.intro (opSY A46_40 39 40 true rfl rfl rfl rfl rfl) <| And.intro (opSX A46_40 40 41 true rfl rfl rfl rfl) <| And.intro (condK K46_41 K46_42 K46_45 rfl) <| And.intro (seqK K46_42 K46_43 K46_44 rfl) <| And.intro (regK K46_43 A46_43 rfl) <| And.intro (nilK A46_43 1 rfl) <| And.intro (opS A46_43 0 1 rfl rfl rfl) <| And.intro (retK K46_44 rfl) <| And.intro (skipK K46_45 rfl) <| And.intro (seqK K46_46 K46_47 K46_48 rfl) <| And.intro (regK K46_47 A46_47 rfl) <| And.intro (nilK A46_47 1 rfl) <| And.intro (opS A46_47 0 1 rfl rfl rfl) <| And.intro (blkK K46_48 K46_49 rfl) <| And.intro (loopK K46_49 K46_50 rfl) <| And.intro (seqK K46_50 K46_51 K46_56 rfl) <| And.intro (seqK K46_51 K46_52 K46_53 rfl) <| And.intro (regK K46_52 A46_52 rfl) <| And.intro (nilK A46_52 5 rfl) <| And.intro (opS A46_52 0 1 rfl rfl rfl) <| And.intro (opS A46_52 1 2 rfl rfl rfl) <| And.intro (opS A46_52 2 3 rfl rfl rfl) <| And.intro (opS A46_52 3 4 rfl rfl rfl) <| And.intro (opS A46_52 4 5 rfl rfl rfl) <| And.intro (condK K46_53 K46_54 K46_55 rfl) <| And.intro (skipK K46_54 rfl) <| And.intro (exitK K46_55 rfl) <| And.intro (seqK K46_56 K46_57 K46_65 rfl) <| And.intro (blkK K46_57 K46_58 rfl) <| And.intro (seqK K46_58 K46_59 K46_60 rfl) <| And.intro (regK K46_59 A46_59 rfl) <| And.intro (nilK A46_59 26 rfl) <| And.intro (opS A46_59 0 1 rfl rfl rfl) <| And.intro (opS A46_59 1 2 rfl rfl rfl) <| And.intro (opS A46_59 2 3 rfl rfl rfl) <| And.intro (opS A46_59 3 4 rfl rfl rfl) <| And.intro (opS A46_59 4 5 rfl rfl rfl) <| And.intro (opS A46_59 5 6 rfl rfl rfl) <| opSG A46_59 6 7 rfl rfl rfl rfl) := And.intro (opSY A46_40 38 39 true rfl rfl rfl rfl rfl) <| And.intro (opSY A46_40 39 40 true rfl rfl rfl rfl rfl) <| And.intro (opSX A46_40 40 41 true rfl rfl rfl rfl) <| And.intro (condK K46_41 K46_42 K46_45 rfl) <| And.intro (seqK K46_42 K46_43 K46_44 rfl) <| And.intro (regK K46_43 A46_43 rfl) <| And.intro (nilK A46_43 1 rfl) <| And.intro (opS A46_43 0 1 rfl rfl rfl) <| And.intro (retK K46_44 rfl) <| And.intro (skipK K46_45 rfl) <| And.intro (seqK K46_46 K46_47 K46_48 rfl) <| And.intro (regK K46_47 A46_47 rfl) <| And.intro (nilK A46_47 1 rfl) <| And.intro (opS A46_47 0 1 rfl rfl rfl) <| And.intro (blkK K46_48 K46_49 rfl) <| And.intro (loopK K46_49 K46_50 rfl) <| And.intro (seqK K46_50 K46_51 K46_56 rfl) <| And.intro (seqK K46_51 K46_52 K46_53 rfl) <| And.intro (regK K46_52 A46_52 rfl) <| And.intro (nilK A46_52 5 rfl) <| And.intro (opS A46_52 0 1 rfl rfl rfl) <| And.intro (opS A46_52 1 2 rfl rfl rfl) <| And.intro (opS A46_52 2 3 rfl rfl rfl) <| And.intro (opS A46_52 3 4 rfl rfl rfl) <| And.intro (opS A46_52 4 5 rfl rfl rfl) <| And.intro (condK K46_53 K46_54 K46_55 rfl) <| And.intro (skipK K46_54 rfl) <| And.intro (exitK K46_55 rfl) <| And.intro (seqK K46_56 K46_57 K46_65 rfl) <| And.intro (blkK K46_57 K46_58 rfl) <| And.intro (seqK K46_58 K46_59 K46_60 rfl) <| And.intro (regK K46_59 A46_59 rfl) <| And.intro (nilK A46_59 26 rfl) <| And.intro (opS A46_59 0 1 rfl rfl rfl) <| And.intro (opS A46_59 1 2 rfl rfl rfl) <| And.intro (opS A46_59 2 3 rfl rfl rfl) <| And.intro (opS A46_59 3 4 rfl rfl rfl) <| And.intro (opS A46_59 4 5 rfl rfl rfl) <| And.intro (opS A46_59 5 6 rfl rfl rfl) <| opSG A46_59 6 7 rfl rfl rfl rfl
theorem code46_4 : type_of% (And.intro (opSG A46_59 7 8 rfl rfl rfl rfl) <| And.intro (opSG A46_59 8 9 rfl rfl rfl rfl) <| And.intro (opSG A46_59 9 10 rfl rfl rfl rfl) <| And.intro (opSG A46_59 10 11 rfl rfl rfl rfl) <| And.intro (opS A46_59 11 12 rfl rfl rfl) <| And.intro (opS A46_59 12 13 rfl rfl rfl) <| And.intro (opSG A46_59 13 14 rfl rfl rfl rfl) <| And.intro (opSG A46_59 14 15 rfl rfl rfl rfl) <| And.intro (opSG A46_59 15 16 rfl rfl rfl rfl) <| And.intro (opSG A46_59 16 17 rfl rfl rfl rfl) <| And.intro (opSG A46_59 17 18 rfl rfl rfl rfl) <| And.intro (opS A46_59 18 19 rfl rfl rfl) <| And.intro (opS A46_59 19 20 rfl rfl rfl) <| And.intro (opSG A46_59 20 21 rfl rfl rfl rfl) <| And.intro (opSG A46_59 21 22 rfl rfl rfl rfl) <| And.intro (opSG A46_59 22 23 rfl rfl rfl rfl) <| And.intro (opSG A46_59 23 24 rfl rfl rfl rfl) <| And.intro (opSG A46_59 24 25 rfl rfl rfl rfl) <| And.intro (opS A46_59 25 26 rfl rfl rfl) <| And.intro (condK K46_60 K46_61 K46_64 rfl) <| And.intro (seqK K46_61 K46_62 K46_63 rfl) <| And.intro (regK K46_62 A46_62 rfl) <| And.intro (nilK A46_62 1 rfl) <| And.intro (opS A46_62 0 1 rfl rfl rfl) <| And.intro (retK K46_63 rfl) <| And.intro (skipK K46_64 rfl) <| And.intro (regK K46_65 A46_65 rfl) <| And.intro (nilK A46_65 3 rfl) <| And.intro (opS A46_65 0 1 rfl rfl rfl) <| And.intro (opS A46_65 1 2 rfl rfl rfl) <| And.intro (opS A46_65 2 3 rfl rfl rfl) <| And.intro (regK K46_66 A46_66 rfl) <| And.intro (nilK A46_66 3 rfl) <| And.intro (opS A46_66 0 1 rfl rfl rfl) <| And.intro (opS A46_66 1 2 rfl rfl rfl) <| And.intro (opS A46_66 2 3 rfl rfl rfl) <| And.intro (seqK K46_67 K46_68 K46_69 rfl) <| And.intro (nilX A46_68 12 rfl) <| And.intro (opSX A46_68 0 1 true rfl rfl rfl rfl) <| opSX A46_68 1 2 true rfl rfl rfl rfl) := And.intro (opSG A46_59 7 8 rfl rfl rfl rfl) <| And.intro (opSG A46_59 8 9 rfl rfl rfl rfl) <| And.intro (opSG A46_59 9 10 rfl rfl rfl rfl) <| And.intro (opSG A46_59 10 11 rfl rfl rfl rfl) <| And.intro (opS A46_59 11 12 rfl rfl rfl) <| And.intro (opS A46_59 12 13 rfl rfl rfl) <| And.intro (opSG A46_59 13 14 rfl rfl rfl rfl) <| And.intro (opSG A46_59 14 15 rfl rfl rfl rfl) <| And.intro (opSG A46_59 15 16 rfl rfl rfl rfl) <| And.intro (opSG A46_59 16 17 rfl rfl rfl rfl) <| And.intro (opSG A46_59 17 18 rfl rfl rfl rfl) <| And.intro (opS A46_59 18 19 rfl rfl rfl) <| And.intro (opS A46_59 19 20 rfl rfl rfl) <| And.intro (opSG A46_59 20 21 rfl rfl rfl rfl) <| And.intro (opSG A46_59 21 22 rfl rfl rfl rfl) <| And.intro (opSG A46_59 22 23 rfl rfl rfl rfl) <| And.intro (opSG A46_59 23 24 rfl rfl rfl rfl) <| And.intro (opSG A46_59 24 25 rfl rfl rfl rfl) <| And.intro (opS A46_59 25 26 rfl rfl rfl) <| And.intro (condK K46_60 K46_61 K46_64 rfl) <| And.intro (seqK K46_61 K46_62 K46_63 rfl) <| And.intro (regK K46_62 A46_62 rfl) <| And.intro (nilK A46_62 1 rfl) <| And.intro (opS A46_62 0 1 rfl rfl rfl) <| And.intro (retK K46_63 rfl) <| And.intro (skipK K46_64 rfl) <| And.intro (regK K46_65 A46_65 rfl) <| And.intro (nilK A46_65 3 rfl) <| And.intro (opS A46_65 0 1 rfl rfl rfl) <| And.intro (opS A46_65 1 2 rfl rfl rfl) <| And.intro (opS A46_65 2 3 rfl rfl rfl) <| And.intro (regK K46_66 A46_66 rfl) <| And.intro (nilK A46_66 3 rfl) <| And.intro (opS A46_66 0 1 rfl rfl rfl) <| And.intro (opS A46_66 1 2 rfl rfl rfl) <| And.intro (opS A46_66 2 3 rfl rfl rfl) <| And.intro (seqK K46_67 K46_68 K46_69 rfl) <| And.intro (nilX A46_68 12 rfl) <| And.intro (opSX A46_68 0 1 true rfl rfl rfl rfl) <| opSX A46_68 1 2 true rfl rfl rfl rfl
theorem code46_5 : type_of% (And.intro (opSX A46_68 2 3 true rfl rfl rfl rfl) <| And.intro (opSX A46_68 3 4 true rfl rfl rfl rfl) <| And.intro (opSX A46_68 4 5 true rfl rfl rfl rfl) <| And.intro (opSX A46_68 5 6 true rfl rfl rfl rfl) <| And.intro (opSX A46_68 6 7 true rfl rfl rfl rfl) <| And.intro (opSX A46_68 7 8 true rfl rfl rfl rfl) <| And.intro (opSX A46_68 8 9 true rfl rfl rfl rfl) <| And.intro (opSX A46_68 9 10 true rfl rfl rfl rfl) <| And.intro (opSX A46_68 10 11 true rfl rfl rfl rfl) <| And.intro (opSX A46_68 11 12 true rfl rfl rfl rfl) <| And.intro (seqK K46_69 K46_70 K46_71 rfl) <| And.intro (regK K46_70 A46_70 rfl) <| And.intro (nilK A46_70 1 rfl) <| And.intro (opS A46_70 0 1 rfl rfl rfl) <| And.intro (blkK K46_71 K46_72 rfl) <| And.intro (loopK K46_72 K46_73 rfl) <| And.intro (seqK K46_73 K46_74 K46_79 rfl) <| And.intro (seqK K46_74 K46_75 K46_76 rfl) <| And.intro (regK K46_75 A46_75 rfl) <| And.intro (nilK A46_75 4 rfl) <| And.intro (opS A46_75 0 1 rfl rfl rfl) <| And.intro (opS A46_75 1 2 rfl rfl rfl) <| And.intro (opS A46_75 2 3 rfl rfl rfl) <| And.intro (opS A46_75 3 4 rfl rfl rfl) <| And.intro (condK K46_76 K46_77 K46_78 rfl) <| And.intro (skipK K46_77 rfl) <| And.intro (exitK K46_78 rfl) <| And.intro (seqK K46_79 K46_80 K46_88 rfl) <| And.intro (blkK K46_80 K46_81 rfl) <| And.intro (seqK K46_81 K46_82 K46_83 rfl) <| And.intro (regK K46_82 A46_82 rfl) <| And.intro (nilK A46_82 22 rfl) <| And.intro (opS A46_82 0 1 rfl rfl rfl) <| And.intro (opS A46_82 1 2 rfl rfl rfl) <| And.intro (opS A46_82 2 3 rfl rfl rfl) <| And.intro (opS A46_82 3 4 rfl rfl rfl) <| And.intro (opS A46_82 4 5 rfl rfl rfl) <| And.intro (opSG A46_82 5 6 rfl rfl rfl rfl) <| And.intro (opSG A46_82 6 7 rfl rfl rfl rfl) <| opSG A46_82 7 8 rfl rfl rfl rfl) := And.intro (opSX A46_68 2 3 true rfl rfl rfl rfl) <| And.intro (opSX A46_68 3 4 true rfl rfl rfl rfl) <| And.intro (opSX A46_68 4 5 true rfl rfl rfl rfl) <| And.intro (opSX A46_68 5 6 true rfl rfl rfl rfl) <| And.intro (opSX A46_68 6 7 true rfl rfl rfl rfl) <| And.intro (opSX A46_68 7 8 true rfl rfl rfl rfl) <| And.intro (opSX A46_68 8 9 true rfl rfl rfl rfl) <| And.intro (opSX A46_68 9 10 true rfl rfl rfl rfl) <| And.intro (opSX A46_68 10 11 true rfl rfl rfl rfl) <| And.intro (opSX A46_68 11 12 true rfl rfl rfl rfl) <| And.intro (seqK K46_69 K46_70 K46_71 rfl) <| And.intro (regK K46_70 A46_70 rfl) <| And.intro (nilK A46_70 1 rfl) <| And.intro (opS A46_70 0 1 rfl rfl rfl) <| And.intro (blkK K46_71 K46_72 rfl) <| And.intro (loopK K46_72 K46_73 rfl) <| And.intro (seqK K46_73 K46_74 K46_79 rfl) <| And.intro (seqK K46_74 K46_75 K46_76 rfl) <| And.intro (regK K46_75 A46_75 rfl) <| And.intro (nilK A46_75 4 rfl) <| And.intro (opS A46_75 0 1 rfl rfl rfl) <| And.intro (opS A46_75 1 2 rfl rfl rfl) <| And.intro (opS A46_75 2 3 rfl rfl rfl) <| And.intro (opS A46_75 3 4 rfl rfl rfl) <| And.intro (condK K46_76 K46_77 K46_78 rfl) <| And.intro (skipK K46_77 rfl) <| And.intro (exitK K46_78 rfl) <| And.intro (seqK K46_79 K46_80 K46_88 rfl) <| And.intro (blkK K46_80 K46_81 rfl) <| And.intro (seqK K46_81 K46_82 K46_83 rfl) <| And.intro (regK K46_82 A46_82 rfl) <| And.intro (nilK A46_82 22 rfl) <| And.intro (opS A46_82 0 1 rfl rfl rfl) <| And.intro (opS A46_82 1 2 rfl rfl rfl) <| And.intro (opS A46_82 2 3 rfl rfl rfl) <| And.intro (opS A46_82 3 4 rfl rfl rfl) <| And.intro (opS A46_82 4 5 rfl rfl rfl) <| And.intro (opSG A46_82 5 6 rfl rfl rfl rfl) <| And.intro (opSG A46_82 6 7 rfl rfl rfl rfl) <| opSG A46_82 7 8 rfl rfl rfl rfl
theorem code46_6 : type_of% (And.intro (opSG A46_82 8 9 rfl rfl rfl rfl) <| And.intro (opS A46_82 9 10 rfl rfl rfl) <| And.intro (opS A46_82 10 11 rfl rfl rfl) <| And.intro (opSG A46_82 11 12 rfl rfl rfl rfl) <| And.intro (opSG A46_82 12 13 rfl rfl rfl rfl) <| And.intro (opSG A46_82 13 14 rfl rfl rfl rfl) <| And.intro (opSG A46_82 14 15 rfl rfl rfl rfl) <| And.intro (opS A46_82 15 16 rfl rfl rfl) <| And.intro (opS A46_82 16 17 rfl rfl rfl) <| And.intro (opSG A46_82 17 18 rfl rfl rfl rfl) <| And.intro (opSG A46_82 18 19 rfl rfl rfl rfl) <| And.intro (opSG A46_82 19 20 rfl rfl rfl rfl) <| And.intro (opSG A46_82 20 21 rfl rfl rfl rfl) <| And.intro (opS A46_82 21 22 rfl rfl rfl) <| And.intro (condK K46_83 K46_84 K46_87 rfl) <| And.intro (seqK K46_84 K46_85 K46_86 rfl) <| And.intro (regK K46_85 A46_85 rfl) <| And.intro (nilK A46_85 1 rfl) <| And.intro (opS A46_85 0 1 rfl rfl rfl) <| And.intro (retK K46_86 rfl) <| And.intro (skipK K46_87 rfl) <| And.intro (regK K46_88 A46_88 rfl) <| And.intro (nilK A46_88 3 rfl) <| And.intro (opS A46_88 0 1 rfl rfl rfl) <| And.intro (opS A46_88 1 2 rfl rfl rfl) <| And.intro (opS A46_88 2 3 rfl rfl rfl) <| And.intro (regK K46_89 A46_89 rfl) <| And.intro (nilK A46_89 3 rfl) <| And.intro (opS A46_89 0 1 rfl rfl rfl) <| And.intro (opS A46_89 1 2 rfl rfl rfl) <| And.intro (opS A46_89 2 3 rfl rfl rfl) <| And.intro (seqK K46_90 K46_91 K46_92 rfl) <| And.intro (regK K46_91 A46_91 rfl) <| And.intro (nilK A46_91 1 rfl) <| And.intro (opS A46_91 0 1 rfl rfl rfl) <| retK K46_92 rfl) := And.intro (opSG A46_82 8 9 rfl rfl rfl rfl) <| And.intro (opS A46_82 9 10 rfl rfl rfl) <| And.intro (opS A46_82 10 11 rfl rfl rfl) <| And.intro (opSG A46_82 11 12 rfl rfl rfl rfl) <| And.intro (opSG A46_82 12 13 rfl rfl rfl rfl) <| And.intro (opSG A46_82 13 14 rfl rfl rfl rfl) <| And.intro (opSG A46_82 14 15 rfl rfl rfl rfl) <| And.intro (opS A46_82 15 16 rfl rfl rfl) <| And.intro (opS A46_82 16 17 rfl rfl rfl) <| And.intro (opSG A46_82 17 18 rfl rfl rfl rfl) <| And.intro (opSG A46_82 18 19 rfl rfl rfl rfl) <| And.intro (opSG A46_82 19 20 rfl rfl rfl rfl) <| And.intro (opSG A46_82 20 21 rfl rfl rfl rfl) <| And.intro (opS A46_82 21 22 rfl rfl rfl) <| And.intro (condK K46_83 K46_84 K46_87 rfl) <| And.intro (seqK K46_84 K46_85 K46_86 rfl) <| And.intro (regK K46_85 A46_85 rfl) <| And.intro (nilK A46_85 1 rfl) <| And.intro (opS A46_85 0 1 rfl rfl rfl) <| And.intro (retK K46_86 rfl) <| And.intro (skipK K46_87 rfl) <| And.intro (regK K46_88 A46_88 rfl) <| And.intro (nilK A46_88 3 rfl) <| And.intro (opS A46_88 0 1 rfl rfl rfl) <| And.intro (opS A46_88 1 2 rfl rfl rfl) <| And.intro (opS A46_88 2 3 rfl rfl rfl) <| And.intro (regK K46_89 A46_89 rfl) <| And.intro (nilK A46_89 3 rfl) <| And.intro (opS A46_89 0 1 rfl rfl rfl) <| And.intro (opS A46_89 1 2 rfl rfl rfl) <| And.intro (opS A46_89 2 3 rfl rfl rfl) <| And.intro (seqK K46_90 K46_91 K46_92 rfl) <| And.intro (regK K46_91 A46_91 rfl) <| And.intro (nilK A46_91 1 rfl) <| And.intro (opS A46_91 0 1 rfl rfl rfl) <| retK K46_92 rfl
theorem ty46 : type_of% (And.intro @al36 <| And.intro @fa36_0 <| And.intro @fa36_1 <| And.intro @fa39_0 <| And.intro @fa39_1 <| And.intro @fa39_2 <| And.intro @fa39_3 <| And.intro @ix23 <| And.intro @ix37 <| And.intro @ld3 <| And.intro @ld36 <| And.intro @ld4 <| And.intro @ld9 <| And.intro @ln23 <| And.intro @ln9 <| @fi46) := And.intro @al36 <| And.intro @fa36_0 <| And.intro @fa36_1 <| And.intro @fa39_0 <| And.intro @fa39_1 <| And.intro @fa39_2 <| And.intro @fa39_3 <| And.intro @ix23 <| And.intro @ix37 <| And.intro @ld3 <| And.intro @ld36 <| And.intro @ld4 <| And.intro @ld9 <| And.intro @ln23 <| And.intro @ln9 <| @fi46

noncomputable def K15_0 : Code := Try.f15.body.getD .skip
noncomputable def K15_1 : Code := lft K15_0
noncomputable def A15_1 : Array Oper := rops K15_1
noncomputable def K15_2 : Code := rgt K15_0
noncomputable def K15_3 : Code := lft K15_2
noncomputable def K15_4 : Code := lft K15_3
noncomputable def A15_4 : Array Oper := rops K15_4
noncomputable def K15_5 : Code := rgt K15_3
noncomputable def K15_6 : Code := lft K15_5
noncomputable def K15_7 : Code := lft K15_6
noncomputable def A15_7 : Array Oper := rops K15_7
noncomputable def K15_8 : Code := rgt K15_6
noncomputable def K15_9 : Code := rgt K15_5
noncomputable def K15_10 : Code := rgt K15_2
noncomputable def K15_11 : Code := lft K15_10
noncomputable def K15_12 : Code := lft K15_11
noncomputable def A15_12 : Array Oper := rops K15_12
noncomputable def K15_13 : Code := rgt K15_11
noncomputable def K15_14 : Code := lft K15_13
noncomputable def K15_15 : Code := lft K15_14
noncomputable def K15_16 : Code := lft K15_15
noncomputable def K15_17 : Code := lft K15_16
noncomputable def A15_17 : Array Oper := rops K15_17
noncomputable def K15_18 : Code := rgt K15_16
noncomputable def K15_19 : Code := lft K15_18
noncomputable def K15_20 : Code := rgt K15_18
noncomputable def K15_21 : Code := rgt K15_15
noncomputable def K15_22 : Code := lft K15_21
noncomputable def K15_23 : Code := lft K15_22
noncomputable def K15_24 : Code := lft K15_23
noncomputable def A15_24 : Array Oper := rops K15_24
noncomputable def K15_25 : Code := rgt K15_23
noncomputable def K15_26 : Code := lft K15_25
noncomputable def K15_27 : Code := lft K15_26
noncomputable def A15_27 : Array Oper := rops K15_27
noncomputable def K15_28 : Code := rgt K15_26
noncomputable def K15_29 : Code := rgt K15_25
noncomputable def K15_30 : Code := rgt K15_21
noncomputable def A15_30 : Array Oper := rops K15_30
noncomputable def K15_31 : Code := rgt K15_10
noncomputable def K15_32 : Code := lft K15_31
noncomputable def A15_32 : Array Oper := rops K15_32
noncomputable def K15_33 : Code := rgt K15_31
theorem body15 : Try.f15.body = some K15_0 := by kernel_rfl
theorem code15_0 : type_of% (And.intro (seqK K15_0 K15_1 K15_2 rfl) <| And.intro (regK K15_1 A15_1 rfl) <| And.intro (nilK A15_1 1 rfl) <| And.intro (opS A15_1 0 1 rfl rfl rfl) <| And.intro (seqK K15_2 K15_3 K15_10 rfl) <| And.intro (seqK K15_3 K15_4 K15_5 rfl) <| And.intro (regK K15_4 A15_4 rfl) <| And.intro (nilK A15_4 3 rfl) <| And.intro (opS A15_4 0 1 rfl rfl rfl) <| And.intro (opS A15_4 1 2 rfl rfl rfl) <| And.intro (opS A15_4 2 3 rfl rfl rfl) <| And.intro (condK K15_5 K15_6 K15_9 rfl) <| And.intro (seqK K15_6 K15_7 K15_8 rfl) <| And.intro (regK K15_7 A15_7 rfl) <| And.intro (nilK A15_7 1 rfl) <| And.intro (opS A15_7 0 1 rfl rfl rfl) <| And.intro (retK K15_8 rfl) <| And.intro (skipK K15_9 rfl) <| And.intro (seqK K15_10 K15_11 K15_31 rfl) <| And.intro (seqK K15_11 K15_12 K15_13 rfl) <| And.intro (regK K15_12 A15_12 rfl) <| And.intro (nilK A15_12 1 rfl) <| And.intro (opS A15_12 0 1 rfl rfl rfl) <| And.intro (blkK K15_13 K15_14 rfl) <| And.intro (loopK K15_14 K15_15 rfl) <| And.intro (seqK K15_15 K15_16 K15_21 rfl) <| And.intro (seqK K15_16 K15_17 K15_18 rfl) <| And.intro (regK K15_17 A15_17 rfl) <| And.intro (nilK A15_17 4 rfl) <| And.intro (opS A15_17 0 1 rfl rfl rfl) <| And.intro (opS A15_17 1 2 rfl rfl rfl) <| And.intro (opS A15_17 2 3 rfl rfl rfl) <| And.intro (opS A15_17 3 4 rfl rfl rfl) <| And.intro (condK K15_18 K15_19 K15_20 rfl) <| And.intro (skipK K15_19 rfl) <| And.intro (exitK K15_20 rfl) <| And.intro (seqK K15_21 K15_22 K15_30 rfl) <| And.intro (blkK K15_22 K15_23 rfl) <| And.intro (seqK K15_23 K15_24 K15_25 rfl) <| regK K15_24 A15_24 rfl) := And.intro (seqK K15_0 K15_1 K15_2 rfl) <| And.intro (regK K15_1 A15_1 rfl) <| And.intro (nilK A15_1 1 rfl) <| And.intro (opS A15_1 0 1 rfl rfl rfl) <| And.intro (seqK K15_2 K15_3 K15_10 rfl) <| And.intro (seqK K15_3 K15_4 K15_5 rfl) <| And.intro (regK K15_4 A15_4 rfl) <| And.intro (nilK A15_4 3 rfl) <| And.intro (opS A15_4 0 1 rfl rfl rfl) <| And.intro (opS A15_4 1 2 rfl rfl rfl) <| And.intro (opS A15_4 2 3 rfl rfl rfl) <| And.intro (condK K15_5 K15_6 K15_9 rfl) <| And.intro (seqK K15_6 K15_7 K15_8 rfl) <| And.intro (regK K15_7 A15_7 rfl) <| And.intro (nilK A15_7 1 rfl) <| And.intro (opS A15_7 0 1 rfl rfl rfl) <| And.intro (retK K15_8 rfl) <| And.intro (skipK K15_9 rfl) <| And.intro (seqK K15_10 K15_11 K15_31 rfl) <| And.intro (seqK K15_11 K15_12 K15_13 rfl) <| And.intro (regK K15_12 A15_12 rfl) <| And.intro (nilK A15_12 1 rfl) <| And.intro (opS A15_12 0 1 rfl rfl rfl) <| And.intro (blkK K15_13 K15_14 rfl) <| And.intro (loopK K15_14 K15_15 rfl) <| And.intro (seqK K15_15 K15_16 K15_21 rfl) <| And.intro (seqK K15_16 K15_17 K15_18 rfl) <| And.intro (regK K15_17 A15_17 rfl) <| And.intro (nilK A15_17 4 rfl) <| And.intro (opS A15_17 0 1 rfl rfl rfl) <| And.intro (opS A15_17 1 2 rfl rfl rfl) <| And.intro (opS A15_17 2 3 rfl rfl rfl) <| And.intro (opS A15_17 3 4 rfl rfl rfl) <| And.intro (condK K15_18 K15_19 K15_20 rfl) <| And.intro (skipK K15_19 rfl) <| And.intro (exitK K15_20 rfl) <| And.intro (seqK K15_21 K15_22 K15_30 rfl) <| And.intro (blkK K15_22 K15_23 rfl) <| And.intro (seqK K15_23 K15_24 K15_25 rfl) <| regK K15_24 A15_24 rfl
theorem code15_1 : type_of% (And.intro (nilK A15_24 35 rfl) <| And.intro (opS A15_24 0 1 rfl rfl rfl) <| And.intro (opS A15_24 1 2 rfl rfl rfl) <| And.intro (opS A15_24 2 3 rfl rfl rfl) <| And.intro (opS A15_24 3 4 rfl rfl rfl) <| And.intro (opS A15_24 4 5 rfl rfl rfl) <| And.intro (opS A15_24 5 6 rfl rfl rfl) <| And.intro (opS A15_24 6 7 rfl rfl rfl) <| And.intro (opS A15_24 7 8 rfl rfl rfl) <| And.intro (opSG A15_24 8 9 rfl rfl rfl rfl) <| And.intro (opSG A15_24 9 10 rfl rfl rfl rfl) <| And.intro (opSG A15_24 10 11 rfl rfl rfl rfl) <| And.intro (opSG A15_24 11 12 rfl rfl rfl rfl) <| And.intro (opSG A15_24 12 13 rfl rfl rfl rfl) <| And.intro (opSG A15_24 13 14 rfl rfl rfl rfl) <| And.intro (opSG A15_24 14 15 rfl rfl rfl rfl) <| And.intro (opS A15_24 15 16 rfl rfl rfl) <| And.intro (opS A15_24 16 17 rfl rfl rfl) <| And.intro (opSG A15_24 17 18 rfl rfl rfl rfl) <| And.intro (opSG A15_24 18 19 rfl rfl rfl rfl) <| And.intro (opSG A15_24 19 20 rfl rfl rfl rfl) <| And.intro (opSG A15_24 20 21 rfl rfl rfl rfl) <| And.intro (opSG A15_24 21 22 rfl rfl rfl rfl) <| And.intro (opSG A15_24 22 23 rfl rfl rfl rfl) <| And.intro (opSG A15_24 23 24 rfl rfl rfl rfl) <| And.intro (opSG A15_24 24 25 rfl rfl rfl rfl) <| And.intro (opS A15_24 25 26 rfl rfl rfl) <| And.intro (opS A15_24 26 27 rfl rfl rfl) <| And.intro (opSG A15_24 27 28 rfl rfl rfl rfl) <| And.intro (opSG A15_24 28 29 rfl rfl rfl rfl) <| And.intro (opSG A15_24 29 30 rfl rfl rfl rfl) <| And.intro (opSG A15_24 30 31 rfl rfl rfl rfl) <| And.intro (opSG A15_24 31 32 rfl rfl rfl rfl) <| And.intro (opSG A15_24 32 33 rfl rfl rfl rfl) <| And.intro (opSG A15_24 33 34 rfl rfl rfl rfl) <| And.intro (opS A15_24 34 35 rfl rfl rfl) <| And.intro (condK K15_25 K15_26 K15_29 rfl) <| And.intro (seqK K15_26 K15_27 K15_28 rfl) <| And.intro (regK K15_27 A15_27 rfl) <| nilK A15_27 1 rfl) := And.intro (nilK A15_24 35 rfl) <| And.intro (opS A15_24 0 1 rfl rfl rfl) <| And.intro (opS A15_24 1 2 rfl rfl rfl) <| And.intro (opS A15_24 2 3 rfl rfl rfl) <| And.intro (opS A15_24 3 4 rfl rfl rfl) <| And.intro (opS A15_24 4 5 rfl rfl rfl) <| And.intro (opS A15_24 5 6 rfl rfl rfl) <| And.intro (opS A15_24 6 7 rfl rfl rfl) <| And.intro (opS A15_24 7 8 rfl rfl rfl) <| And.intro (opSG A15_24 8 9 rfl rfl rfl rfl) <| And.intro (opSG A15_24 9 10 rfl rfl rfl rfl) <| And.intro (opSG A15_24 10 11 rfl rfl rfl rfl) <| And.intro (opSG A15_24 11 12 rfl rfl rfl rfl) <| And.intro (opSG A15_24 12 13 rfl rfl rfl rfl) <| And.intro (opSG A15_24 13 14 rfl rfl rfl rfl) <| And.intro (opSG A15_24 14 15 rfl rfl rfl rfl) <| And.intro (opS A15_24 15 16 rfl rfl rfl) <| And.intro (opS A15_24 16 17 rfl rfl rfl) <| And.intro (opSG A15_24 17 18 rfl rfl rfl rfl) <| And.intro (opSG A15_24 18 19 rfl rfl rfl rfl) <| And.intro (opSG A15_24 19 20 rfl rfl rfl rfl) <| And.intro (opSG A15_24 20 21 rfl rfl rfl rfl) <| And.intro (opSG A15_24 21 22 rfl rfl rfl rfl) <| And.intro (opSG A15_24 22 23 rfl rfl rfl rfl) <| And.intro (opSG A15_24 23 24 rfl rfl rfl rfl) <| And.intro (opSG A15_24 24 25 rfl rfl rfl rfl) <| And.intro (opS A15_24 25 26 rfl rfl rfl) <| And.intro (opS A15_24 26 27 rfl rfl rfl) <| And.intro (opSG A15_24 27 28 rfl rfl rfl rfl) <| And.intro (opSG A15_24 28 29 rfl rfl rfl rfl) <| And.intro (opSG A15_24 29 30 rfl rfl rfl rfl) <| And.intro (opSG A15_24 30 31 rfl rfl rfl rfl) <| And.intro (opSG A15_24 31 32 rfl rfl rfl rfl) <| And.intro (opSG A15_24 32 33 rfl rfl rfl rfl) <| And.intro (opSG A15_24 33 34 rfl rfl rfl rfl) <| And.intro (opS A15_24 34 35 rfl rfl rfl) <| And.intro (condK K15_25 K15_26 K15_29 rfl) <| And.intro (seqK K15_26 K15_27 K15_28 rfl) <| And.intro (regK K15_27 A15_27 rfl) <| nilK A15_27 1 rfl
theorem code15_2 : type_of% (And.intro (opS A15_27 0 1 rfl rfl rfl) <| And.intro (retK K15_28 rfl) <| And.intro (skipK K15_29 rfl) <| And.intro (regK K15_30 A15_30 rfl) <| And.intro (nilK A15_30 3 rfl) <| And.intro (opS A15_30 0 1 rfl rfl rfl) <| And.intro (opS A15_30 1 2 rfl rfl rfl) <| And.intro (opS A15_30 2 3 rfl rfl rfl) <| And.intro (seqK K15_31 K15_32 K15_33 rfl) <| And.intro (regK K15_32 A15_32 rfl) <| And.intro (nilK A15_32 1 rfl) <| And.intro (opS A15_32 0 1 rfl rfl rfl) <| retK K15_33 rfl) := And.intro (opS A15_27 0 1 rfl rfl rfl) <| And.intro (retK K15_28 rfl) <| And.intro (skipK K15_29 rfl) <| And.intro (regK K15_30 A15_30 rfl) <| And.intro (nilK A15_30 3 rfl) <| And.intro (opS A15_30 0 1 rfl rfl rfl) <| And.intro (opS A15_30 1 2 rfl rfl rfl) <| And.intro (opS A15_30 2 3 rfl rfl rfl) <| And.intro (seqK K15_31 K15_32 K15_33 rfl) <| And.intro (regK K15_32 A15_32 rfl) <| And.intro (nilK A15_32 1 rfl) <| And.intro (opS A15_32 0 1 rfl rfl rfl) <| retK K15_33 rfl
theorem ty15 : type_of% (And.intro @bs23 <| And.intro @fa41_0 <| And.intro @fa41_2 <| And.intro @ix24 <| And.intro @ld23 <| And.intro @ld39 <| And.intro @ln24 <| @fi15) := And.intro @bs23 <| And.intro @fa41_0 <| And.intro @fa41_2 <| And.intro @ix24 <| And.intro @ld23 <| And.intro @ld39 <| And.intro @ln24 <| @fi15

noncomputable def K14_0 : Code := Try.f14.body.getD .skip
noncomputable def K14_1 : Code := lft K14_0
noncomputable def A14_1 : Array Oper := rops K14_1
noncomputable def K14_2 : Code := rgt K14_0
noncomputable def K14_3 : Code := lft K14_2
noncomputable def K14_4 : Code := lft K14_3
noncomputable def A14_4 : Array Oper := rops K14_4
noncomputable def K14_5 : Code := rgt K14_3
noncomputable def K14_6 : Code := lft K14_5
noncomputable def K14_7 : Code := lft K14_6
noncomputable def A14_7 : Array Oper := rops K14_7
noncomputable def K14_8 : Code := rgt K14_6
noncomputable def K14_9 : Code := rgt K14_5
noncomputable def K14_10 : Code := rgt K14_2
noncomputable def K14_11 : Code := lft K14_10
noncomputable def K14_12 : Code := lft K14_11
noncomputable def A14_12 : Array Oper := rops K14_12
noncomputable def K14_13 : Code := rgt K14_11
noncomputable def K14_14 : Code := lft K14_13
noncomputable def K14_15 : Code := lft K14_14
noncomputable def K14_16 : Code := lft K14_15
noncomputable def K14_17 : Code := lft K14_16
noncomputable def A14_17 : Array Oper := rops K14_17
noncomputable def K14_18 : Code := rgt K14_16
noncomputable def K14_19 : Code := lft K14_18
noncomputable def K14_20 : Code := rgt K14_18
noncomputable def K14_21 : Code := rgt K14_15
noncomputable def K14_22 : Code := lft K14_21
noncomputable def K14_23 : Code := lft K14_22
noncomputable def K14_24 : Code := lft K14_23
noncomputable def A14_24 : Array Oper := rops K14_24
noncomputable def K14_25 : Code := rgt K14_23
noncomputable def K14_26 : Code := lft K14_25
noncomputable def K14_27 : Code := lft K14_26
noncomputable def A14_27 : Array Oper := rops K14_27
noncomputable def K14_28 : Code := rgt K14_26
noncomputable def K14_29 : Code := rgt K14_25
noncomputable def K14_30 : Code := rgt K14_21
noncomputable def A14_30 : Array Oper := rops K14_30
noncomputable def K14_31 : Code := rgt K14_10
noncomputable def K14_32 : Code := lft K14_31
noncomputable def A14_32 : Array Oper := rops K14_32
noncomputable def K14_33 : Code := rgt K14_31
theorem body14 : Try.f14.body = some K14_0 := by kernel_rfl
theorem code14_0 : type_of% (And.intro (seqK K14_0 K14_1 K14_2 rfl) <| And.intro (regK K14_1 A14_1 rfl) <| And.intro (nilK A14_1 1 rfl) <| And.intro (opS A14_1 0 1 rfl rfl rfl) <| And.intro (seqK K14_2 K14_3 K14_10 rfl) <| And.intro (seqK K14_3 K14_4 K14_5 rfl) <| And.intro (regK K14_4 A14_4 rfl) <| And.intro (nilK A14_4 8 rfl) <| And.intro (opS A14_4 0 1 rfl rfl rfl) <| And.intro (opS A14_4 1 2 rfl rfl rfl) <| And.intro (opS A14_4 2 3 rfl rfl rfl) <| And.intro (opS A14_4 3 4 rfl rfl rfl) <| And.intro (opSG A14_4 4 5 rfl rfl rfl rfl) <| And.intro (opSG A14_4 5 6 rfl rfl rfl rfl) <| And.intro (opSG A14_4 6 7 rfl rfl rfl rfl) <| And.intro (opS A14_4 7 8 rfl rfl rfl) <| And.intro (condK K14_5 K14_6 K14_9 rfl) <| And.intro (seqK K14_6 K14_7 K14_8 rfl) <| And.intro (regK K14_7 A14_7 rfl) <| And.intro (nilK A14_7 1 rfl) <| And.intro (opS A14_7 0 1 rfl rfl rfl) <| And.intro (retK K14_8 rfl) <| And.intro (skipK K14_9 rfl) <| And.intro (seqK K14_10 K14_11 K14_31 rfl) <| And.intro (seqK K14_11 K14_12 K14_13 rfl) <| And.intro (regK K14_12 A14_12 rfl) <| And.intro (nilK A14_12 1 rfl) <| And.intro (opS A14_12 0 1 rfl rfl rfl) <| And.intro (blkK K14_13 K14_14 rfl) <| And.intro (loopK K14_14 K14_15 rfl) <| And.intro (seqK K14_15 K14_16 K14_21 rfl) <| And.intro (seqK K14_16 K14_17 K14_18 rfl) <| And.intro (regK K14_17 A14_17 rfl) <| And.intro (nilK A14_17 4 rfl) <| And.intro (opS A14_17 0 1 rfl rfl rfl) <| And.intro (opS A14_17 1 2 rfl rfl rfl) <| And.intro (opS A14_17 2 3 rfl rfl rfl) <| And.intro (opS A14_17 3 4 rfl rfl rfl) <| And.intro (condK K14_18 K14_19 K14_20 rfl) <| skipK K14_19 rfl) := And.intro (seqK K14_0 K14_1 K14_2 rfl) <| And.intro (regK K14_1 A14_1 rfl) <| And.intro (nilK A14_1 1 rfl) <| And.intro (opS A14_1 0 1 rfl rfl rfl) <| And.intro (seqK K14_2 K14_3 K14_10 rfl) <| And.intro (seqK K14_3 K14_4 K14_5 rfl) <| And.intro (regK K14_4 A14_4 rfl) <| And.intro (nilK A14_4 8 rfl) <| And.intro (opS A14_4 0 1 rfl rfl rfl) <| And.intro (opS A14_4 1 2 rfl rfl rfl) <| And.intro (opS A14_4 2 3 rfl rfl rfl) <| And.intro (opS A14_4 3 4 rfl rfl rfl) <| And.intro (opSG A14_4 4 5 rfl rfl rfl rfl) <| And.intro (opSG A14_4 5 6 rfl rfl rfl rfl) <| And.intro (opSG A14_4 6 7 rfl rfl rfl rfl) <| And.intro (opS A14_4 7 8 rfl rfl rfl) <| And.intro (condK K14_5 K14_6 K14_9 rfl) <| And.intro (seqK K14_6 K14_7 K14_8 rfl) <| And.intro (regK K14_7 A14_7 rfl) <| And.intro (nilK A14_7 1 rfl) <| And.intro (opS A14_7 0 1 rfl rfl rfl) <| And.intro (retK K14_8 rfl) <| And.intro (skipK K14_9 rfl) <| And.intro (seqK K14_10 K14_11 K14_31 rfl) <| And.intro (seqK K14_11 K14_12 K14_13 rfl) <| And.intro (regK K14_12 A14_12 rfl) <| And.intro (nilK A14_12 1 rfl) <| And.intro (opS A14_12 0 1 rfl rfl rfl) <| And.intro (blkK K14_13 K14_14 rfl) <| And.intro (loopK K14_14 K14_15 rfl) <| And.intro (seqK K14_15 K14_16 K14_21 rfl) <| And.intro (seqK K14_16 K14_17 K14_18 rfl) <| And.intro (regK K14_17 A14_17 rfl) <| And.intro (nilK A14_17 4 rfl) <| And.intro (opS A14_17 0 1 rfl rfl rfl) <| And.intro (opS A14_17 1 2 rfl rfl rfl) <| And.intro (opS A14_17 2 3 rfl rfl rfl) <| And.intro (opS A14_17 3 4 rfl rfl rfl) <| And.intro (condK K14_18 K14_19 K14_20 rfl) <| skipK K14_19 rfl
theorem code14_1 : type_of% (And.intro (exitK K14_20 rfl) <| And.intro (seqK K14_21 K14_22 K14_30 rfl) <| And.intro (blkK K14_22 K14_23 rfl) <| And.intro (seqK K14_23 K14_24 K14_25 rfl) <| And.intro (regK K14_24 A14_24 rfl) <| And.intro (nilK A14_24 16 rfl) <| And.intro (opS A14_24 0 1 rfl rfl rfl) <| And.intro (opS A14_24 1 2 rfl rfl rfl) <| And.intro (opS A14_24 2 3 rfl rfl rfl) <| And.intro (opS A14_24 3 4 rfl rfl rfl) <| And.intro (opS A14_24 4 5 rfl rfl rfl) <| And.intro (opS A14_24 5 6 rfl rfl rfl) <| And.intro (opS A14_24 6 7 rfl rfl rfl) <| And.intro (opS A14_24 7 8 rfl rfl rfl) <| And.intro (opSG A14_24 8 9 rfl rfl rfl rfl) <| And.intro (opSG A14_24 9 10 rfl rfl rfl rfl) <| And.intro (opSG A14_24 10 11 rfl rfl rfl rfl) <| And.intro (opSG A14_24 11 12 rfl rfl rfl rfl) <| And.intro (opSG A14_24 12 13 rfl rfl rfl rfl) <| And.intro (opSG A14_24 13 14 rfl rfl rfl rfl) <| And.intro (opSG A14_24 14 15 rfl rfl rfl rfl) <| And.intro (opS A14_24 15 16 rfl rfl rfl) <| And.intro (condK K14_25 K14_26 K14_29 rfl) <| And.intro (seqK K14_26 K14_27 K14_28 rfl) <| And.intro (regK K14_27 A14_27 rfl) <| And.intro (nilK A14_27 1 rfl) <| And.intro (opS A14_27 0 1 rfl rfl rfl) <| And.intro (retK K14_28 rfl) <| And.intro (skipK K14_29 rfl) <| And.intro (regK K14_30 A14_30 rfl) <| And.intro (nilK A14_30 3 rfl) <| And.intro (opS A14_30 0 1 rfl rfl rfl) <| And.intro (opS A14_30 1 2 rfl rfl rfl) <| And.intro (opS A14_30 2 3 rfl rfl rfl) <| And.intro (seqK K14_31 K14_32 K14_33 rfl) <| And.intro (regK K14_32 A14_32 rfl) <| And.intro (nilK A14_32 1 rfl) <| And.intro (opS A14_32 0 1 rfl rfl rfl) <| retK K14_33 rfl) := And.intro (exitK K14_20 rfl) <| And.intro (seqK K14_21 K14_22 K14_30 rfl) <| And.intro (blkK K14_22 K14_23 rfl) <| And.intro (seqK K14_23 K14_24 K14_25 rfl) <| And.intro (regK K14_24 A14_24 rfl) <| And.intro (nilK A14_24 16 rfl) <| And.intro (opS A14_24 0 1 rfl rfl rfl) <| And.intro (opS A14_24 1 2 rfl rfl rfl) <| And.intro (opS A14_24 2 3 rfl rfl rfl) <| And.intro (opS A14_24 3 4 rfl rfl rfl) <| And.intro (opS A14_24 4 5 rfl rfl rfl) <| And.intro (opS A14_24 5 6 rfl rfl rfl) <| And.intro (opS A14_24 6 7 rfl rfl rfl) <| And.intro (opS A14_24 7 8 rfl rfl rfl) <| And.intro (opSG A14_24 8 9 rfl rfl rfl rfl) <| And.intro (opSG A14_24 9 10 rfl rfl rfl rfl) <| And.intro (opSG A14_24 10 11 rfl rfl rfl rfl) <| And.intro (opSG A14_24 11 12 rfl rfl rfl rfl) <| And.intro (opSG A14_24 12 13 rfl rfl rfl rfl) <| And.intro (opSG A14_24 13 14 rfl rfl rfl rfl) <| And.intro (opSG A14_24 14 15 rfl rfl rfl rfl) <| And.intro (opS A14_24 15 16 rfl rfl rfl) <| And.intro (condK K14_25 K14_26 K14_29 rfl) <| And.intro (seqK K14_26 K14_27 K14_28 rfl) <| And.intro (regK K14_27 A14_27 rfl) <| And.intro (nilK A14_27 1 rfl) <| And.intro (opS A14_27 0 1 rfl rfl rfl) <| And.intro (retK K14_28 rfl) <| And.intro (skipK K14_29 rfl) <| And.intro (regK K14_30 A14_30 rfl) <| And.intro (nilK A14_30 3 rfl) <| And.intro (opS A14_30 0 1 rfl rfl rfl) <| And.intro (opS A14_30 1 2 rfl rfl rfl) <| And.intro (opS A14_30 2 3 rfl rfl rfl) <| And.intro (seqK K14_31 K14_32 K14_33 rfl) <| And.intro (regK K14_32 A14_32 rfl) <| And.intro (nilK A14_32 1 rfl) <| And.intro (opS A14_32 0 1 rfl rfl rfl) <| retK K14_33 rfl
theorem ty14 : type_of% (And.intro @fa47_0 <| And.intro @fa47_1 <| And.intro @ix22 <| And.intro @ld23 <| And.intro @ld39 <| And.intro @ln22 <| @fi14) := And.intro @fa47_0 <| And.intro @fa47_1 <| And.intro @ix22 <| And.intro @ld23 <| And.intro @ld39 <| And.intro @ln22 <| @fi14

noncomputable def K24_0 : Code := Try.f24.body.getD .skip
noncomputable def K24_1 : Code := lft K24_0
noncomputable def A24_1 : Array Oper := rops K24_1
noncomputable def K24_2 : Code := rgt K24_0
noncomputable def K24_3 : Code := lft K24_2
noncomputable def K24_4 : Code := lft K24_3
noncomputable def A24_4 : Array Oper := rops K24_4
noncomputable def K24_5 : Code := rgt K24_3
noncomputable def K24_6 : Code := lft K24_5
noncomputable def K24_7 : Code := lft K24_6
noncomputable def A24_7 : Array Oper := rops K24_7
noncomputable def K24_8 : Code := rgt K24_6
noncomputable def K24_9 : Code := rgt K24_5
noncomputable def K24_10 : Code := rgt K24_2
noncomputable def K24_11 : Code := lft K24_10
noncomputable def A24_11 : Array Oper := rops K24_11
noncomputable def K24_12 : Code := rgt K24_10
noncomputable def K24_13 : Code := lft K24_12
noncomputable def K24_14 : Code := lft K24_13
noncomputable def A24_14 : Array Oper := rops K24_14
noncomputable def K24_15 : Code := rgt K24_13
noncomputable def K24_16 : Code := lft K24_15
noncomputable def A24_16 : Array Oper := rops K24_16
noncomputable def K24_17 : Code := rgt K24_15
noncomputable def K24_18 : Code := rgt K24_12
noncomputable def K24_19 : Code := lft K24_18
noncomputable def A24_19 : Array Oper := rops K24_19
noncomputable def K24_20 : Code := rgt K24_18
theorem body24 : Try.f24.body = some K24_0 := by kernel_rfl
theorem code24_0 : type_of% (And.intro (seqK K24_0 K24_1 K24_2 rfl) <| And.intro (regK K24_1 A24_1 rfl) <| And.intro (nilK A24_1 1 rfl) <| And.intro (opS A24_1 0 1 rfl rfl rfl) <| And.intro (seqK K24_2 K24_3 K24_10 rfl) <| And.intro (seqK K24_3 K24_4 K24_5 rfl) <| And.intro (regK K24_4 A24_4 rfl) <| And.intro (nilK A24_4 2 rfl) <| And.intro (opS A24_4 0 1 rfl rfl rfl) <| And.intro (opS A24_4 1 2 rfl rfl rfl) <| And.intro (condK K24_5 K24_6 K24_9 rfl) <| And.intro (seqK K24_6 K24_7 K24_8 rfl) <| And.intro (regK K24_7 A24_7 rfl) <| And.intro (nilK A24_7 1 rfl) <| And.intro (opS A24_7 0 1 rfl rfl rfl) <| And.intro (retK K24_8 rfl) <| And.intro (skipK K24_9 rfl) <| And.intro (seqK K24_10 K24_11 K24_12 rfl) <| And.intro (regK K24_11 A24_11 rfl) <| And.intro (nilK A24_11 4 rfl) <| And.intro (opS A24_11 0 1 rfl rfl rfl) <| And.intro (opS A24_11 1 2 rfl rfl rfl) <| And.intro (opS A24_11 2 3 rfl rfl rfl) <| And.intro (opS A24_11 3 4 rfl rfl rfl) <| And.intro (seqK K24_12 K24_13 K24_18 rfl) <| And.intro (seqK K24_13 K24_14 K24_15 rfl) <| And.intro (regK K24_14 A24_14 rfl) <| And.intro (nilK A24_14 2 rfl) <| And.intro (opS A24_14 0 1 rfl rfl rfl) <| And.intro (opS A24_14 1 2 rfl rfl rfl) <| And.intro (condK K24_15 K24_16 K24_17 rfl) <| And.intro (regK K24_16 A24_16 rfl) <| And.intro (nilK A24_16 4 rfl) <| And.intro (opS A24_16 0 1 rfl rfl rfl) <| And.intro (opS A24_16 1 2 rfl rfl rfl) <| And.intro (opS A24_16 2 3 rfl rfl rfl) <| And.intro (opS A24_16 3 4 rfl rfl rfl) <| And.intro (skipK K24_17 rfl) <| And.intro (seqK K24_18 K24_19 K24_20 rfl) <| regK K24_19 A24_19 rfl) := And.intro (seqK K24_0 K24_1 K24_2 rfl) <| And.intro (regK K24_1 A24_1 rfl) <| And.intro (nilK A24_1 1 rfl) <| And.intro (opS A24_1 0 1 rfl rfl rfl) <| And.intro (seqK K24_2 K24_3 K24_10 rfl) <| And.intro (seqK K24_3 K24_4 K24_5 rfl) <| And.intro (regK K24_4 A24_4 rfl) <| And.intro (nilK A24_4 2 rfl) <| And.intro (opS A24_4 0 1 rfl rfl rfl) <| And.intro (opS A24_4 1 2 rfl rfl rfl) <| And.intro (condK K24_5 K24_6 K24_9 rfl) <| And.intro (seqK K24_6 K24_7 K24_8 rfl) <| And.intro (regK K24_7 A24_7 rfl) <| And.intro (nilK A24_7 1 rfl) <| And.intro (opS A24_7 0 1 rfl rfl rfl) <| And.intro (retK K24_8 rfl) <| And.intro (skipK K24_9 rfl) <| And.intro (seqK K24_10 K24_11 K24_12 rfl) <| And.intro (regK K24_11 A24_11 rfl) <| And.intro (nilK A24_11 4 rfl) <| And.intro (opS A24_11 0 1 rfl rfl rfl) <| And.intro (opS A24_11 1 2 rfl rfl rfl) <| And.intro (opS A24_11 2 3 rfl rfl rfl) <| And.intro (opS A24_11 3 4 rfl rfl rfl) <| And.intro (seqK K24_12 K24_13 K24_18 rfl) <| And.intro (seqK K24_13 K24_14 K24_15 rfl) <| And.intro (regK K24_14 A24_14 rfl) <| And.intro (nilK A24_14 2 rfl) <| And.intro (opS A24_14 0 1 rfl rfl rfl) <| And.intro (opS A24_14 1 2 rfl rfl rfl) <| And.intro (condK K24_15 K24_16 K24_17 rfl) <| And.intro (regK K24_16 A24_16 rfl) <| And.intro (nilK A24_16 4 rfl) <| And.intro (opS A24_16 0 1 rfl rfl rfl) <| And.intro (opS A24_16 1 2 rfl rfl rfl) <| And.intro (opS A24_16 2 3 rfl rfl rfl) <| And.intro (opS A24_16 3 4 rfl rfl rfl) <| And.intro (skipK K24_17 rfl) <| And.intro (seqK K24_18 K24_19 K24_20 rfl) <| regK K24_19 A24_19 rfl
theorem code24_1 : type_of% (And.intro (nilK A24_19 2 rfl) <| And.intro (opS A24_19 0 1 rfl rfl rfl) <| And.intro (opS A24_19 1 2 rfl rfl rfl) <| retK K24_20 rfl) := And.intro (nilK A24_19 2 rfl) <| And.intro (opS A24_19 0 1 rfl rfl rfl) <| And.intro (opS A24_19 1 2 rfl rfl rfl) <| retK K24_20 rfl
theorem ty24 : type_of% (@fi24) := @fi24

noncomputable def K27_0 : Code := Try.f27.body.getD .skip
noncomputable def K27_1 : Code := lft K27_0
noncomputable def A27_1 : Array Oper := rops K27_1
noncomputable def K27_2 : Code := rgt K27_0
noncomputable def K27_3 : Code := lft K27_2
noncomputable def A27_3 : Array Oper := rops K27_3
noncomputable def K27_4 : Code := rgt K27_2
theorem body27 : Try.f27.body = some K27_0 := by kernel_rfl
theorem code27_0 : type_of% (And.intro (seqK K27_0 K27_1 K27_2 rfl) <| And.intro (regK K27_1 A27_1 rfl) <| And.intro (nilK A27_1 1 rfl) <| And.intro (opS A27_1 0 1 rfl rfl rfl) <| And.intro (seqK K27_2 K27_3 K27_4 rfl) <| And.intro (regK K27_3 A27_3 rfl) <| And.intro (nilK A27_3 4 rfl) <| And.intro (opS A27_3 0 1 rfl rfl rfl) <| And.intro (opS A27_3 1 2 rfl rfl rfl) <| And.intro (opS A27_3 2 3 rfl rfl rfl) <| And.intro (opS A27_3 3 4 rfl rfl rfl) <| retK K27_4 rfl) := And.intro (seqK K27_0 K27_1 K27_2 rfl) <| And.intro (regK K27_1 A27_1 rfl) <| And.intro (nilK A27_1 1 rfl) <| And.intro (opS A27_1 0 1 rfl rfl rfl) <| And.intro (seqK K27_2 K27_3 K27_4 rfl) <| And.intro (regK K27_3 A27_3 rfl) <| And.intro (nilK A27_3 4 rfl) <| And.intro (opS A27_3 0 1 rfl rfl rfl) <| And.intro (opS A27_3 1 2 rfl rfl rfl) <| And.intro (opS A27_3 2 3 rfl rfl rfl) <| And.intro (opS A27_3 3 4 rfl rfl rfl) <| retK K27_4 rfl
theorem ty27 : type_of% (And.intro @bs23 <| @fi27) := And.intro @bs23 <| @fi27

noncomputable def K26_0 : Code := Try.f26.body.getD .skip
noncomputable def K26_1 : Code := lft K26_0
noncomputable def A26_1 : Array Oper := rops K26_1
noncomputable def K26_2 : Code := rgt K26_0
noncomputable def K26_3 : Code := lft K26_2
noncomputable def A26_3 : Array Oper := rops K26_3
noncomputable def K26_4 : Code := rgt K26_2
noncomputable def K26_5 : Code := lft K26_4
noncomputable def K26_6 : Code := lft K26_5
noncomputable def A26_6 : Array Oper := rops K26_6
noncomputable def K26_7 : Code := rgt K26_5
noncomputable def K26_8 : Code := lft K26_7
noncomputable def K26_9 : Code := lft K26_8
noncomputable def K26_10 : Code := lft K26_9
noncomputable def K26_11 : Code := lft K26_10
noncomputable def A26_11 : Array Oper := rops K26_11
noncomputable def K26_12 : Code := rgt K26_10
noncomputable def K26_13 : Code := lft K26_12
noncomputable def K26_14 : Code := rgt K26_12
noncomputable def K26_15 : Code := rgt K26_9
noncomputable def K26_16 : Code := lft K26_15
noncomputable def K26_17 : Code := lft K26_16
noncomputable def A26_17 : Array Oper := rops K26_17
noncomputable def K26_18 : Code := rgt K26_15
noncomputable def A26_18 : Array Oper := rops K26_18
noncomputable def K26_19 : Code := rgt K26_4
noncomputable def K26_20 : Code := lft K26_19
noncomputable def A26_20 : Array Oper := rops K26_20
noncomputable def K26_21 : Code := rgt K26_19
theorem body26 : Try.f26.body = some K26_0 := by kernel_rfl
theorem D26_17 : DrawK K26_17 A26_17 := drawK rfl (by kernel_rfl)
theorem code26_0 : type_of% (And.intro (seqK K26_0 K26_1 K26_2 rfl) <| And.intro (regK K26_1 A26_1 rfl) <| And.intro (nilK A26_1 1 rfl) <| And.intro (opS A26_1 0 1 rfl rfl rfl) <| And.intro (seqK K26_2 K26_3 K26_4 rfl) <| And.intro (regK K26_3 A26_3 rfl) <| And.intro (nilK A26_3 1 rfl) <| And.intro (opS A26_3 0 1 rfl rfl rfl) <| And.intro (seqK K26_4 K26_5 K26_19 rfl) <| And.intro (seqK K26_5 K26_6 K26_7 rfl) <| And.intro (regK K26_6 A26_6 rfl) <| And.intro (nilK A26_6 1 rfl) <| And.intro (opS A26_6 0 1 rfl rfl rfl) <| And.intro (blkK K26_7 K26_8 rfl) <| And.intro (loopK K26_8 K26_9 rfl) <| And.intro (seqK K26_9 K26_10 K26_15 rfl) <| And.intro (seqK K26_10 K26_11 K26_12 rfl) <| And.intro (regK K26_11 A26_11 rfl) <| And.intro (nilK A26_11 4 rfl) <| And.intro (opS A26_11 0 1 rfl rfl rfl) <| And.intro (opS A26_11 1 2 rfl rfl rfl) <| And.intro (opS A26_11 2 3 rfl rfl rfl) <| And.intro (opS A26_11 3 4 rfl rfl rfl) <| And.intro (condK K26_12 K26_13 K26_14 rfl) <| And.intro (skipK K26_13 rfl) <| And.intro (exitK K26_14 rfl) <| And.intro (seqK K26_15 K26_16 K26_18 rfl) <| And.intro (blkK K26_16 K26_17 rfl) <| And.intro (nilX A26_17 16 rfl) <| And.intro (opSX A26_17 0 1 true rfl rfl rfl rfl) <| And.intro (opSX A26_17 1 2 true rfl rfl rfl rfl) <| And.intro (opSX A26_17 2 3 true rfl rfl rfl rfl) <| And.intro (opSX A26_17 3 4 true rfl rfl rfl rfl) <| And.intro (opSX A26_17 4 5 true rfl rfl rfl rfl) <| And.intro (opSX A26_17 5 6 true rfl rfl rfl rfl) <| And.intro (opSX A26_17 6 7 true rfl rfl rfl rfl) <| And.intro (opSX A26_17 7 8 true rfl rfl rfl rfl) <| And.intro (opSX A26_17 8 9 true rfl rfl rfl rfl) <| And.intro (opSX A26_17 9 10 true rfl rfl rfl rfl) <| opSX A26_17 10 11 true rfl rfl rfl rfl) := And.intro (seqK K26_0 K26_1 K26_2 rfl) <| And.intro (regK K26_1 A26_1 rfl) <| And.intro (nilK A26_1 1 rfl) <| And.intro (opS A26_1 0 1 rfl rfl rfl) <| And.intro (seqK K26_2 K26_3 K26_4 rfl) <| And.intro (regK K26_3 A26_3 rfl) <| And.intro (nilK A26_3 1 rfl) <| And.intro (opS A26_3 0 1 rfl rfl rfl) <| And.intro (seqK K26_4 K26_5 K26_19 rfl) <| And.intro (seqK K26_5 K26_6 K26_7 rfl) <| And.intro (regK K26_6 A26_6 rfl) <| And.intro (nilK A26_6 1 rfl) <| And.intro (opS A26_6 0 1 rfl rfl rfl) <| And.intro (blkK K26_7 K26_8 rfl) <| And.intro (loopK K26_8 K26_9 rfl) <| And.intro (seqK K26_9 K26_10 K26_15 rfl) <| And.intro (seqK K26_10 K26_11 K26_12 rfl) <| And.intro (regK K26_11 A26_11 rfl) <| And.intro (nilK A26_11 4 rfl) <| And.intro (opS A26_11 0 1 rfl rfl rfl) <| And.intro (opS A26_11 1 2 rfl rfl rfl) <| And.intro (opS A26_11 2 3 rfl rfl rfl) <| And.intro (opS A26_11 3 4 rfl rfl rfl) <| And.intro (condK K26_12 K26_13 K26_14 rfl) <| And.intro (skipK K26_13 rfl) <| And.intro (exitK K26_14 rfl) <| And.intro (seqK K26_15 K26_16 K26_18 rfl) <| And.intro (blkK K26_16 K26_17 rfl) <| And.intro (nilX A26_17 16 rfl) <| And.intro (opSX A26_17 0 1 true rfl rfl rfl rfl) <| And.intro (opSX A26_17 1 2 true rfl rfl rfl rfl) <| And.intro (opSX A26_17 2 3 true rfl rfl rfl rfl) <| And.intro (opSX A26_17 3 4 true rfl rfl rfl rfl) <| And.intro (opSX A26_17 4 5 true rfl rfl rfl rfl) <| And.intro (opSX A26_17 5 6 true rfl rfl rfl rfl) <| And.intro (opSX A26_17 6 7 true rfl rfl rfl rfl) <| And.intro (opSX A26_17 7 8 true rfl rfl rfl rfl) <| And.intro (opSX A26_17 8 9 true rfl rfl rfl rfl) <| And.intro (opSX A26_17 9 10 true rfl rfl rfl rfl) <| opSX A26_17 10 11 true rfl rfl rfl rfl
theorem code26_1 : type_of% (And.intro (opSX A26_17 11 12 false rfl rfl rfl rfl) <| And.intro (opSX A26_17 12 13 true rfl rfl rfl rfl) <| And.intro (opSX A26_17 13 14 false rfl rfl rfl rfl) <| And.intro (opSX A26_17 14 15 false rfl rfl rfl rfl) <| And.intro (opSX A26_17 15 16 true rfl rfl rfl rfl) <| And.intro (regK K26_18 A26_18 rfl) <| And.intro (nilK A26_18 3 rfl) <| And.intro (opS A26_18 0 1 rfl rfl rfl) <| And.intro (opS A26_18 1 2 rfl rfl rfl) <| And.intro (opS A26_18 2 3 rfl rfl rfl) <| And.intro (seqK K26_19 K26_20 K26_21 rfl) <| And.intro (regK K26_20 A26_20 rfl) <| And.intro (nilK A26_20 2 rfl) <| And.intro (opS A26_20 0 1 rfl rfl rfl) <| And.intro (opS A26_20 1 2 rfl rfl rfl) <| retK K26_21 rfl) := And.intro (opSX A26_17 11 12 false rfl rfl rfl rfl) <| And.intro (opSX A26_17 12 13 true rfl rfl rfl rfl) <| And.intro (opSX A26_17 13 14 false rfl rfl rfl rfl) <| And.intro (opSX A26_17 14 15 false rfl rfl rfl rfl) <| And.intro (opSX A26_17 15 16 true rfl rfl rfl rfl) <| And.intro (regK K26_18 A26_18 rfl) <| And.intro (nilK A26_18 3 rfl) <| And.intro (opS A26_18 0 1 rfl rfl rfl) <| And.intro (opS A26_18 1 2 rfl rfl rfl) <| And.intro (opS A26_18 2 3 rfl rfl rfl) <| And.intro (seqK K26_19 K26_20 K26_21 rfl) <| And.intro (regK K26_20 A26_20 rfl) <| And.intro (nilK A26_20 2 rfl) <| And.intro (opS A26_20 0 1 rfl rfl rfl) <| And.intro (opS A26_20 1 2 rfl rfl rfl) <| retK K26_21 rfl
theorem ty26 : type_of% (And.intro @bs22 <| And.intro @fa47_0 <| And.intro @fa47_1 <| And.intro @ix22 <| And.intro @ld23 <| And.intro @ld39 <| And.intro @ln22 <| @fi26) := And.intro @bs22 <| And.intro @fa47_0 <| And.intro @fa47_1 <| And.intro @ix22 <| And.intro @ld23 <| And.intro @ld39 <| And.intro @ln22 <| @fi26
end Go.Proofs.Ytompindebndddaa
namespace Go.Proofs.Ytompindebndddaa
open Go.Am
set_option linter.unusedSimpArgs false
set_option linter.unusedVariables false
set_option maxRecDepth 100000
set_option maxHeartbeats 0
/-! ### Light -/
theorem ok_light (a : AtomD) (h : Heap) (K : Value → Heap → Prop) (h1 : a.light = true → ∀ h', Ext h h' → K (.bool true) h') (h2 : a.light = false → ∀ h', Ext h h' → K (.bool false) h') : Ok Try.prog tab ov 42 [a.val] h K := by
  rw [lay_nil h]
  have z := Ext.refl h
  unfold AtomD.val AtomD.cells
  refine Ok.into rfl tab_fn42 body42 rfl (m := 29) rfl ?_
  simp -implicitDefEqProofs only [syms, symx, Nat.reduceAdd, Nat.reduceMul, Int.reduceLT, Int.reduceLE, Int.reduceAdd, Int.reduceSub, Int.reduceToNat, Int.reduceNeg, reduceIte, Nat.reduceGT, Nat.reduceLT, Nat.reduceLeDiff, code42_0, code42_1, ty42]
  repeat' ((first
    | ((with_reducible first | apply forkD | apply forkB | apply forkN | apply forkNP | apply forkNot) <;> intro _)
    | with_reducible_and_instances refine W_unroll ?_
    | ((with_reducible_and_instances apply unop_not); (· rfl))) <;> simp -implicitDefEqProofs only [syms, symx, Nat.reduceAdd, Nat.reduceMul, Int.reduceLT, Int.reduceLE, Int.reduceAdd, Int.reduceSub, Int.reduceToNat, Int.reduceNeg, reduceIte, Nat.reduceGT, Nat.reduceLT, Nat.reduceLeDiff, code42_0, code42_1, ty42])
  all_goals first
    | with_reducible exact h2 (by simp [AtomD.light]; omega) _ (z.upW _ _ (by omega))
    | with_reducible exact h1 (by simp [AtomD.light]; omega) _ (z.upW _ _ (by omega))
theorem ok_lights (l : List AtomD) (v : Value) (m : Int) (h : Heap) (hl : Sl Rep.atom h v l) (K : Value → Heap → Prop) (h1 : (l.length : Int) ≤ m → (∀ a ∈ l, a.light = true) → ∀ h', Ext h h' → K (.bool true) h') (h2 : ∀ h', Ext h h' → K (.bool false) h') : Ok Try.prog tab ov 23 [v, .int .i64 m] h K := by
  rw [lay_nil h]
  have z := Ext.refl h
  have hle := hl.le
  refine Ok.into rfl tab_fn23 body23 rfl (m := 20) rfl ?_
  simp -implicitDefEqProofs only [syms, symx, Nat.reduceAdd, Nat.reduceMul, Int.reduceLT, Int.reduceLE, Int.reduceAdd, Int.reduceSub, Int.reduceToNat, Int.reduceNeg, reduceIte, Nat.reduceGT, Nat.reduceLT, Nat.reduceLeDiff, code23_0, code23_1, ty23]
  repeat' ((first
    | ((with_reducible first | apply forkD | apply forkB | apply forkN | apply forkNP | apply forkNot) <;> intro _)
    | with_reducible_and_instances refine ln_rule hl ds23 ?_
    | ((with_reducible_and_instances apply unop_not); (· rfl))) <;> simp -implicitDefEqProofs only [syms, symx, Nat.reduceAdd, Nat.reduceMul, Int.reduceLT, Int.reduceLE, Int.reduceAdd, Int.reduceSub, Int.reduceToNat, Int.reduceNeg, reduceIte, Nat.reduceGT, Nat.reduceLT, Nat.reduceLeDiff, code23_0, code23_1, ty23])
  · exact h2 _ (z.upW _ _ (by omega))
  refine W_loop (fun e h' => ∃ (i : Nat) (h1 : Heap) (x1 x2 x3 x4 x6 x7 x8 x9 x10 x11 x12 x13 x14 x15 x16 x17 x18 x19 x20 x21 : Value), h' = h1.lay [] h1.low ∧ Ext h h1 ∧ i ≤ l.length ∧ (∀ a ∈ l.take i, a.light = true) ∧ e = [v, x1, x2, x3, x4, .int .i64 i, x6, x7, x8, x9, x10, x11, x12, x13, x14, x15, x16, x17, x18, x19, x20, x21]) (fun e _ => match e.get 5 with | .int _ i => l.length - i.toNat | _ => 0) ?_ ?_
  · exact ⟨0, h, _, _, _, _, _, _, _, _, _, _, _, _, _, _, _, _, _, _, _, _, rfl, z, by omega, by simp, rfl⟩
  rintro e h' ⟨i, h1', x1, x2, x3, x4, x6, x7, x8, x9, x10, x11, x12, x13, x14, x15, x16, x17, x18, x19, x20, x21, rfl, z, hi, hall, rfl⟩
  have hw : i < l.length → IntKind.i64.wrap ((i : Int) + 1) = ((i + 1 : Nat) : Int) := fun hh => by unfold maxLen at hle; rw [wrap_i64 (by omega) (by omega)]; omega
  simp -implicitDefEqProofs only [syms, symx, Nat.reduceAdd, Nat.reduceMul, Int.reduceLT, Int.reduceLE, Int.reduceAdd, Int.reduceSub, Int.reduceToNat, Int.reduceNeg, reduceIte, Nat.reduceGT, Nat.reduceLT, Nat.reduceLeDiff, code23_0, code23_1, ty23]
  repeat' ((first
    | ((with_reducible first | apply forkD | apply forkB | apply forkN | apply forkNP | apply forkNot) <;> intro _)
    | with_reducible_and_instances refine ln_rule hl ds23 ?_
    | with_reducible_and_instances refine ixa (hl.mono z.inc) ds23 sz39 (by omega) (by omega) (fun a p ha hp => ?_)
    | with_reducible_and_instances refine lda hp ag39 sz39 ?_
    | ((with_reducible_and_instances refine ok_light _ _ _ (fun hlx h' x => ?_) (fun hlx h' x => ?_)) <;> ((skip); replace z := z.overW x (by (try simp only [lay_size, List.length_cons, List.length_nil]); omega); rw [lay_nil h']))
    | ((with_reducible_and_instances apply unop_not); (· rfl))) <;> simp -implicitDefEqProofs only [syms, symx, Nat.reduceAdd, Nat.reduceMul, Int.reduceLT, Int.reduceLE, Int.reduceAdd, Int.reduceSub, Int.reduceToNat, Int.reduceNeg, reduceIte, Nat.reduceGT, Nat.reduceLT, Nat.reduceLeDiff, code23_0, code23_1, ty23])
  all_goals first
    | with_reducible exact h2 _ (z.upW _ _ (by omega))
    | with_reducible exact h1 (by omega) (by rw [List.take_of_length_le (by omega)] at hall; exact hall) _ (z.upW _ _ (by omega))
    | (rw [hw (by omega)]
       with_reducible refine loopE_normal ?_ ?_
       · exact ⟨i + 1, h', _, _, _, _, _, _, _, _, _, _, _, _, _, _, _, _, _, _, _, _, rfl, z, by omega, take_all ha hall hlx, rfl⟩
       · show l.length - ((i + 1 : Nat) : Int).toNat < l.length - (i : Int).toNat
         omega)
end Go.Proofs.Ytompindebndddaa
namespace Go.Proofs.Ytompindebndddaa
open Go.Am
set_option linter.unusedSimpArgs false
set_option linter.unusedVariables false
set_option maxRecDepth 100000
set_option maxHeartbeats 0
/-- What a pick within so many may be. -/
def pickD (n m : Int) : Int := if m < 1 then 0 else if n.tmod m < 0 then n.tmod m + m else n.tmod m
theorem pickD_lt (n m : Int) (hm : 1 ≤ m) : 0 ≤ pickD n m ∧ pickD n m < m := by
  unfold pickD
  rw [if_neg (by omega)]
  have h1 := Int.tmod_lt_of_pos n (show 0 < m by omega)
  have h2 := Int.lt_tmod_of_pos n (show 0 < m by omega)
  split <;> omega
theorem ok_plain (l : List AtomD) (v : Value) (h : Heap) (hl : Sl Rep.atom h v l) (hs : l.length ≤ 1000) (hlt : ∀ a ∈ l, a.light = true) (K : Value → Heap → Prop) (hk : ∀ b h', Ext h h' → K (.bool b) h') : Ok Try.prog tab ov 46 [v] h K := by
  rw [lay_nil h]
  have z := Ext.refl h
  have hle := hl.le
  refine Ok.into rfl tab_fn46 body46 rfl (m := 152) rfl ?_
  simp -implicitDefEqProofs only [syms, symx, Nat.reduceAdd, Nat.reduceMul, Int.reduceLT, Int.reduceLE, Int.reduceAdd, Int.reduceSub, Int.reduceToNat, Int.reduceNeg, reduceIte, Nat.reduceGT, Nat.reduceLT, Nat.reduceLeDiff, code46_0, code46_1, code46_2, code46_3, code46_4, code46_5, code46_6, ty46]
  obtain ⟨I1, hI1⟩ : ∃ I : Nat → Env → Heap → Prop, I = (fun n e h' => ∃ (i : Nat) (h1 : Heap), h' = h1.lay [] h1.low ∧ Ext h h1 ∧ (n = l.length - i ∧ i ≤ l.length) ∧ ∃ J : Nat → Value, e = (v :: J 1 :: J 2 :: .int .i64 i :: J 4 :: J 5 :: J 6 :: J 7 :: J 8 :: J 9 :: J 10 :: J 11 :: J 12 :: J 13 :: J 14 :: J 15 :: J 16 :: J 17 :: J 18 :: J 19 :: J 20 :: J 21 :: J 22 :: J 23 :: J 24 :: J 25 :: J 26 :: J 27 :: J 28 :: J 29 :: J 30 :: J 31 :: J 32 :: J 33 :: J 34 :: J 35 :: J 36 :: J 37 :: J 38 :: J 39 :: J 40 :: J 41 :: J 42 :: J 43 :: J 44 :: J 45 :: J 46 :: J 47 :: J 48 :: J 49 :: J 50 :: J 51 :: J 52 :: J 53 :: J 54 :: J 55 :: J 56 :: J 57 :: J 58 :: J 59 :: J 60 :: J 61 :: J 62 :: J 63 :: J 64 :: J 65 :: J 66 :: J 67 :: J 68 :: J 69 :: J 70 :: J 71 :: J 72 :: J 73 :: J 74 :: J 75 :: J 76 :: J 77 :: J 78 :: J 79 :: J 80 :: J 81 :: J 82 :: J 83 :: J 84 :: J 85 :: J 86 :: J 87 :: J 88 :: J 89 :: J 90 :: J 91 :: J 92 :: J 93 :: J 94 :: J 95 :: J 96 :: J 97 :: J 98 :: J 99 :: J 100 :: J 101 :: J 102 :: J 103 :: J 104 :: J 105 :: J 106 :: J 107 :: J 108 :: J 109 :: J 110 :: J 111 :: J 112 :: J 113 :: J 114 :: J 115 :: J 116 :: J 117 :: J 118 :: J 119 :: J 120 :: J 121 :: J 122 :: J 123 :: J 124 :: J 125 :: J 126 :: J 127 :: J 128 :: J 129 :: J 130 :: J 131 :: J 132 :: J 133 :: J 134 :: J 135 :: J 136 :: J 137 :: J 138 :: J 139 :: J 140 :: J 141 :: J 142 :: J 143 :: J 144 :: J 145 :: J 146 :: J 147 :: J 148 :: J 149 :: J 150 :: J 151 :: J 152 :: [])) := ⟨_, rfl⟩
  refine W_loopN I1 _ (by rw [hI1]; exact ⟨0, _, rfl, z, ⟨rfl, by omega⟩, junk (by kernel_rfl)⟩) ?_
  intro n e h' hin
  rw [hI1] at hin
  obtain ⟨i, h1', rfl, z, hinv, J, rfl⟩ := hin
  obtain ⟨rfl, hi⟩ := hinv
  have hw : i < l.length → IntKind.i64.wrap ((i : Int) + 1) = ((i + 1 : Nat) : Int) := fun hh => by unfold maxLen at hle; rw [wrap_i64 (by omega) (by omega)]; omega
  simp -implicitDefEqProofs only [syms, symx, Nat.reduceAdd, Nat.reduceMul, Int.reduceLT, Int.reduceLE, Int.reduceAdd, Int.reduceSub, Int.reduceToNat, Int.reduceNeg, reduceIte, Nat.reduceGT, Nat.reduceLT, Nat.reduceLeDiff, code46_0, code46_1, code46_2, code46_3, code46_4, code46_5, code46_6, ty46]
  repeat' ((first
    | ((with_reducible first | apply forkD | apply forkB | apply forkN | apply forkNP | apply forkNot) <;> intro _)
    | with_reducible_and_instances refine ln_rule hl ds23 ?_
    | with_reducible_and_instances refine ixa (hl.mono z.inc) ds23 sz39 (by omega) (by omega) (fun a p ha hp => ?_)
    | with_reducible_and_instances refine fda2 hp fa39_2 (fun q hq => ?_)
    | with_reducible_and_instances refine ld_one hq ag3 ?_
    | ((with_reducible_and_instances apply index_str); (· exact Try.underlying9); (· rfl); (· rfl); (· omega); (· first | omega | exact str_pos (by assumption)))
    | ((with_reducible_and_instances apply unop_not); (· rfl))
    | ((with_reducible refine ⟨z.grw.lay _ _, ?_⟩); (intro _ h' zz x _); (try simp only [lay_lay, List.append_nil] at x); (replace z := zz); (clear zz); rw [lay_nil h'])) <;> simp -implicitDefEqProofs only [syms, symx, Nat.reduceAdd, Nat.reduceMul, Int.reduceLT, Int.reduceLE, Int.reduceAdd, Int.reduceSub, Int.reduceToNat, Int.reduceNeg, reduceIte, Nat.reduceGT, Nat.reduceLT, Nat.reduceLeDiff, code46_0, code46_1, code46_2, code46_3, code46_4, code46_5, code46_6, ty46])
  all_goals try exact hk _ _ (z.upW _ _ (by omega))
  obtain ⟨I2, hI2⟩ : ∃ I : Nat → Env → Heap → Prop, I = (fun n e h' => ∃ (k : Nat) (h1 : Heap), h' = h1.lay [] h1.low ∧ Ext h h1 ∧ (n = 4 - k ∧ k ≤ 4) ∧ ∃ J : Nat → Value, e = (v :: J 1 :: J 2 :: .int .i64 i :: .int .i64 k :: J 5 :: J 6 :: J 7 :: J 8 :: J 9 :: J 10 :: J 11 :: J 12 :: J 13 :: J 14 :: J 15 :: J 16 :: J 17 :: J 18 :: J 19 :: J 20 :: J 21 :: J 22 :: J 23 :: J 24 :: J 25 :: J 26 :: J 27 :: J 28 :: J 29 :: J 30 :: J 31 :: J 32 :: J 33 :: J 34 :: J 35 :: J 36 :: J 37 :: J 38 :: J 39 :: J 40 :: J 41 :: J 42 :: J 43 :: J 44 :: J 45 :: J 46 :: J 47 :: J 48 :: J 49 :: J 50 :: J 51 :: J 52 :: J 53 :: J 54 :: J 55 :: J 56 :: J 57 :: J 58 :: J 59 :: J 60 :: J 61 :: J 62 :: J 63 :: J 64 :: J 65 :: J 66 :: J 67 :: J 68 :: J 69 :: J 70 :: J 71 :: J 72 :: J 73 :: J 74 :: J 75 :: J 76 :: J 77 :: J 78 :: J 79 :: J 80 :: J 81 :: J 82 :: J 83 :: J 84 :: J 85 :: J 86 :: J 87 :: J 88 :: J 89 :: J 90 :: J 91 :: J 92 :: J 93 :: J 94 :: J 95 :: J 96 :: J 97 :: J 98 :: J 99 :: J 100 :: J 101 :: J 102 :: J 103 :: J 104 :: J 105 :: J 106 :: J 107 :: J 108 :: J 109 :: J 110 :: J 111 :: J 112 :: J 113 :: J 114 :: J 115 :: J 116 :: J 117 :: J 118 :: J 119 :: J 120 :: J 121 :: J 122 :: J 123 :: J 124 :: J 125 :: J 126 :: J 127 :: J 128 :: J 129 :: J 130 :: J 131 :: J 132 :: J 133 :: J 134 :: J 135 :: J 136 :: J 137 :: J 138 :: J 139 :: J 140 :: J 141 :: J 142 :: J 143 :: J 144 :: J 145 :: J 146 :: J 147 :: J 148 :: J 149 :: J 150 :: J 151 :: J 152 :: [])) := ⟨_, rfl⟩
  refine W_loopN I2 _ (by rw [hI2]; exact ⟨0, _, rfl, z, ⟨rfl, by omega⟩, junk (by kernel_rfl)⟩) ?_
  intro n e h' hin
  rw [hI2] at hin
  obtain ⟨k, h2', rfl, z, hinv, J, rfl⟩ := hin
  obtain ⟨rfl, hk4⟩ := hinv
  have hwk : IntKind.i64.wrap ((k : Int) + 1) = ((k + 1 : Nat) : Int) := by rw [wrap_i64 (by omega) (by omega)]; omega
  simp -implicitDefEqProofs only [syms, symx, Nat.reduceAdd, Nat.reduceMul, Int.reduceLT, Int.reduceLE, Int.reduceAdd, Int.reduceSub, Int.reduceToNat, Int.reduceNeg, reduceIte, Nat.reduceGT, Nat.reduceLT, Nat.reduceLeDiff, code46_0, code46_1, code46_2, code46_3, code46_4, code46_5, code46_6, ty46]
  repeat' ((first
    | ((with_reducible first | apply forkD | apply forkB | apply forkN | apply forkNP | apply forkNot) <;> intro _)
    | with_reducible_and_instances refine ln_rule hl ds23 ?_
    | with_reducible_and_instances refine ixa (hl.mono z.inc) ds23 sz39 (by omega) (by omega) (fun a p ha hp => ?_)
    | with_reducible_and_instances refine fda2 hp fa39_2 (fun q hq => ?_)
    | with_reducible_and_instances refine ld_one hq ag3 ?_
    | with_reducible_and_instances refine fda3 hp fa39_3 (fun p hp => ?_)
    | with_reducible_and_instances refine ixg hp ix37 (by omega) (by omega) (fun p hp => ?_)
    | with_reducible_and_instances refine ldt hp ag36 sz36 ?_
    | ((with_reducible_and_instances apply index_str); (· exact Try.underlying9); (· rfl); (· rfl); (· omega); (· first | omega | exact str_pos (by assumption)))
    | ((with_reducible_and_instances apply unop_not); (· rfl))
    | ((with_reducible refine ⟨z.grw.lay _ _, ?_⟩); (intro _ h' zz x _); (try simp only [lay_lay, List.append_nil] at x); (replace z := zz); (clear zz); rw [lay_nil h'])) <;> simp -implicitDefEqProofs only [syms, symx, Nat.reduceAdd, Nat.reduceMul, Int.reduceLT, Int.reduceLE, Int.reduceAdd, Int.reduceSub, Int.reduceToNat, Int.reduceNeg, reduceIte, Nat.reduceGT, Nat.reduceLT, Nat.reduceLeDiff, code46_0, code46_1, code46_2, code46_3, code46_4, code46_5, code46_6, ty46, lay_set, storeO_row, List.all_cons, List.all_nil, one, Bool.and_true, Bool.true_and, Bool.and_self, List.set_cons_zero, List.set_cons_succ, st4, st3, st9, st36, st39, st47, st41, st192, TermD.val, TermD.cells])
  · have hsz := light_arg (hlt a (List.mem_of_getElem? ha)) k
    refine W_fold (fun h' x hq => ?_)
    have q0 := hq 0 _ rfl
    clear hq
    (replace z := z.overW x (by (try simp only [lay_size, List.length_cons, List.length_nil]); omega); rw [lay_nil h'])
    obtain ⟨R3, hR3⟩ : ∃ R : Env → Heap → Prop, R = (fun e h' => ∃ (h1 : Heap), h' = h1.lay [] h1.low ∧ Ext h h1 ∧ (Holds h1 (h2'.size + 0) (.row [.bool (a.arg k).v, .string (a.arg k).s] 36 false)) ∧ ∃ J : Nat → Value, e = (v :: J 1 :: J 2 :: .int .i64 i :: .int .i64 k :: .pointer (some ⟨h2'.size + 0, 0, none⟩) :: J 6 :: J 7 :: J 8 :: J 9 :: J 10 :: J 11 :: J 12 :: J 13 :: J 14 :: J 15 :: J 16 :: J 17 :: J 18 :: J 19 :: J 20 :: J 21 :: J 22 :: J 23 :: J 24 :: J 25 :: J 26 :: J 27 :: J 28 :: J 29 :: J 30 :: J 31 :: J 32 :: J 33 :: J 34 :: J 35 :: J 36 :: J 37 :: J 38 :: J 39 :: J 40 :: J 41 :: J 42 :: J 43 :: J 44 :: J 45 :: J 46 :: J 47 :: J 48 :: J 49 :: J 50 :: J 51 :: J 52 :: J 53 :: J 54 :: J 55 :: J 56 :: J 57 :: J 58 :: J 59 :: J 60 :: J 61 :: J 62 :: J 63 :: J 64 :: J 65 :: J 66 :: J 67 :: J 68 :: J 69 :: J 70 :: J 71 :: J 72 :: J 73 :: J 74 :: J 75 :: J 76 :: J 77 :: J 78 :: J 79 :: J 80 :: J 81 :: J 82 :: J 83 :: J 84 :: J 85 :: J 86 :: J 87 :: J 88 :: J 89 :: J 90 :: J 91 :: J 92 :: J 93 :: J 94 :: J 95 :: J 96 :: J 97 :: J 98 :: J 99 :: J 100 :: J 101 :: J 102 :: J 103 :: J 104 :: J 105 :: J 106 :: J 107 :: J 108 :: J 109 :: J 110 :: J 111 :: J 112 :: J 113 :: J 114 :: J 115 :: J 116 :: J 117 :: J 118 :: J 119 :: J 120 :: J 121 :: J 122 :: J 123 :: J 124 :: J 125 :: J 126 :: J 127 :: J 128 :: J 129 :: J 130 :: J 131 :: J 132 :: J 133 :: J 134 :: J 135 :: J 136 :: J 137 :: J 138 :: J 139 :: J 140 :: J 141 :: J 142 :: J 143 :: J 144 :: J 145 :: J 146 :: J 147 :: J 148 :: J 149 :: J 150 :: J 151 :: J 152 :: []) ∧ ∃ b : Bool, J 80 = .bool b) := ⟨_, rfl⟩
    refine W_cut R3 ?cut ?rest
    case' rest =>
      intro e h' hin
      rw [hR3] at hin
      obtain ⟨h3', rfl, z, hinv, J, rfl, b, hJ⟩ := hin
    case cut =>
      repeat' ((first
        | ((with_reducible first | apply forkD | apply forkB | apply forkN | apply forkNP | apply forkNot) <;> intro _)
        | with_reducible_and_instances refine ln_rule hl ds23 ?_
        | with_reducible_and_instances refine ixa (hl.mono z.inc) ds23 sz39 (by omega) (by omega) (fun a p ha hp => ?_)
        | with_reducible_and_instances refine fda2 hp fa39_2 (fun q hq => ?_)
        | with_reducible_and_instances refine ld_one hq ag3 ?_
        | with_reducible_and_instances refine fda3 hp fa39_3 (fun p hp => ?_)
        | with_reducible_and_instances refine ixg hp ix37 (by omega) (by omega) (fun p hp => ?_)
        | with_reducible_and_instances refine ldt hp ag36 sz36 ?_
        | with_reducible refine forkT (fun _ => ?_) (fun _ => ?_)
        | ((with_reducible_and_instances apply index_str); (· exact Try.underlying9); (· rfl); (· rfl); (· omega); (· first | omega | exact str_pos (by assumption)))
        | ((with_reducible_and_instances apply unop_not); (· rfl))
        | with_reducible refine D46_40 (z.upW _ _ (by omega)) ?_
        | with_reducible refine D46_68 (z.upW _ _ (by omega)) ?_
        | ((with_reducible refine ⟨z.grw.lay _ _, ?_⟩); (intro _ h' zz x _); (try simp only [lay_lay, List.append_nil] at x); (try replace q0 := q0.over x); (replace z := zz); (clear zz); rw [lay_nil h'])) <;> simp -implicitDefEqProofs only [syms, symx, Nat.reduceAdd, Nat.reduceMul, Int.reduceLT, Int.reduceLE, Int.reduceAdd, Int.reduceSub, Int.reduceToNat, Int.reduceNeg, reduceIte, Nat.reduceGT, Nat.reduceLT, Nat.reduceLeDiff, code46_0, code46_1, code46_2, code46_3, code46_4, code46_5, code46_6, ty46, q0.lay, bin_termN2, build_term2, bool_neq])
      all_goals ((first | refine ⟨rfl, ?_⟩ | skip); rw [hR3]; exact ⟨_, rfl, z, q0, junk2 (by kernel_rfl) (⟨_, rfl⟩)⟩)
    case rest =>
    have q0 := hinv
    cases b
    rotate_left
    · simp -implicitDefEqProofs only [syms, symx, Nat.reduceAdd, Nat.reduceMul, Int.reduceLT, Int.reduceLE, Int.reduceAdd, Int.reduceSub, Int.reduceToNat, Int.reduceNeg, reduceIte, Nat.reduceGT, Nat.reduceLT, Nat.reduceLeDiff, code46_0, code46_1, code46_2, code46_3, code46_4, code46_5, code46_6, ty46, hJ]
      exact hk _ _ (z.upW _ _ (by omega))
    simp -implicitDefEqProofs only [syms, symx, Nat.reduceAdd, Nat.reduceMul, Int.reduceLT, Int.reduceLE, Int.reduceAdd, Int.reduceSub, Int.reduceToNat, Int.reduceNeg, reduceIte, Nat.reduceGT, Nat.reduceLT, Nat.reduceLeDiff, code46_0, code46_1, code46_2, code46_3, code46_4, code46_5, code46_6, ty46, hJ]
    obtain ⟨I4, hI4⟩ : ∃ I : Nat → Env → Heap → Prop, I = (fun n e h' => ∃ (j : Nat) (h1 : Heap), h' = h1.lay [] h1.low ∧ Ext h h1 ∧ (n = (a.arg k).s.size - j ∧ j ≤ (a.arg k).s.size ∧ Holds h1 (h2'.size + 0) (.row [.bool (a.arg k).v, .string (a.arg k).s] 36 false)) ∧ ∃ J : Nat → Value, e = (v :: J 1 :: J 2 :: .int .i64 i :: .int .i64 k :: .pointer (some ⟨h2'.size + 0, 0, none⟩) :: .int .i64 j :: J 7 :: J 8 :: J 9 :: J 10 :: J 11 :: J 12 :: J 13 :: J 14 :: J 15 :: J 16 :: J 17 :: J 18 :: J 19 :: J 20 :: J 21 :: J 22 :: J 23 :: J 24 :: J 25 :: J 26 :: J 27 :: J 28 :: J 29 :: J 30 :: J 31 :: J 32 :: J 33 :: J 34 :: J 35 :: J 36 :: J 37 :: J 38 :: J 39 :: J 40 :: J 41 :: J 42 :: J 43 :: J 44 :: J 45 :: J 46 :: J 47 :: J 48 :: J 49 :: J 50 :: J 51 :: J 52 :: J 53 :: J 54 :: J 55 :: J 56 :: J 57 :: J 58 :: J 59 :: J 60 :: J 61 :: J 62 :: J 63 :: J 64 :: J 65 :: J 66 :: J 67 :: J 68 :: J 69 :: J 70 :: J 71 :: J 72 :: J 73 :: J 74 :: J 75 :: J 76 :: J 77 :: J 78 :: J 79 :: J 80 :: J 81 :: J 82 :: J 83 :: J 84 :: J 85 :: J 86 :: J 87 :: J 88 :: J 89 :: J 90 :: J 91 :: J 92 :: J 93 :: J 94 :: J 95 :: J 96 :: J 97 :: J 98 :: J 99 :: J 100 :: J 101 :: J 102 :: J 103 :: J 104 :: J 105 :: J 106 :: J 107 :: J 108 :: J 109 :: J 110 :: J 111 :: J 112 :: J 113 :: J 114 :: J 115 :: J 116 :: J 117 :: J 118 :: J 119 :: J 120 :: J 121 :: J 122 :: J 123 :: J 124 :: J 125 :: J 126 :: J 127 :: J 128 :: J 129 :: J 130 :: J 131 :: J 132 :: J 133 :: J 134 :: J 135 :: J 136 :: J 137 :: J 138 :: J 139 :: J 140 :: J 141 :: J 142 :: J 143 :: J 144 :: J 145 :: J 146 :: J 147 :: J 148 :: J 149 :: J 150 :: J 151 :: J 152 :: [])) := ⟨_, rfl⟩
    refine W_loopN I4 _ (by rw [hI4]; exact ⟨0, _, rfl, z, ⟨rfl, by omega, q0⟩, junk (by kernel_rfl)⟩) ?_
    intro n e h' hin
    rw [hI4] at hin
    obtain ⟨j, h3', rfl, z, hinv, J, rfl⟩ := hin
    obtain ⟨rfl, hj, q0⟩ := hinv
    have hwj : IntKind.i64.wrap ((j : Int) + 1) = ((j + 1 : Nat) : Int) := by rw [wrap_i64 (by omega) (by omega)]; omega
    simp -implicitDefEqProofs only [syms, symx, Nat.reduceAdd, Nat.reduceMul, Int.reduceLT, Int.reduceLE, Int.reduceAdd, Int.reduceSub, Int.reduceToNat, Int.reduceNeg, reduceIte, Nat.reduceGT, Nat.reduceLT, Nat.reduceLeDiff, code46_0, code46_1, code46_2, code46_3, code46_4, code46_5, code46_6, ty46, q0.lay]
    repeat' ((first
      | ((with_reducible first | apply forkD | apply forkB | apply forkN | apply forkNP | apply forkNot) <;> intro _)
      | with_reducible_and_instances refine ln_rule hl ds23 ?_
      | with_reducible_and_instances refine ixa (hl.mono z.inc) ds23 sz39 (by omega) (by omega) (fun a p ha hp => ?_)
      | with_reducible_and_instances refine fda2 hp fa39_2 (fun q hq => ?_)
      | with_reducible_and_instances refine ld_one hq ag3 ?_
      | with_reducible_and_instances refine fda3 hp fa39_3 (fun p hp => ?_)
      | with_reducible_and_instances refine ixg hp ix37 (by omega) (by omega) (fun p hp => ?_)
      | with_reducible_and_instances refine ldt hp ag36 sz36 ?_
      | with_reducible refine forkT (fun _ => ?_) (fun _ => ?_)
      | ((with_reducible_and_instances apply index_str); (· exact Try.underlying9); (· rfl); (· rfl); (· omega); (· first | omega | exact str_pos (by assumption)))
      | ((with_reducible_and_instances apply unop_not); (· rfl))
      | with_reducible refine D46_40 (z.upW _ _ (by omega)) ?_
      | with_reducible refine D46_68 (z.upW _ _ (by omega)) ?_
      | ((with_reducible refine ⟨z.grw.lay _ _, ?_⟩); (intro _ h' zz x _); (try simp only [lay_lay, List.append_nil] at x); (try replace q0 := q0.over x); (replace z := zz); (clear zz); rw [lay_nil h'])) <;> simp -implicitDefEqProofs only [syms, symx, Nat.reduceAdd, Nat.reduceMul, Int.reduceLT, Int.reduceLE, Int.reduceAdd, Int.reduceSub, Int.reduceToNat, Int.reduceNeg, reduceIte, Nat.reduceGT, Nat.reduceLT, Nat.reduceLeDiff, code46_0, code46_1, code46_2, code46_3, code46_4, code46_5, code46_6, ty46, q0.lay])
    all_goals first
      | with_reducible exact hk _ _ (z.upW _ _ (by omega))
      | (rw [hwj]; (rw [hI4]; with_reducible refine loopN_normal (m := _) ?_ ⟨j + 1, _, rfl, z, ⟨rfl, by omega, q0⟩, junk (by kernel_rfl)⟩; omega))
      | (rw [hwk]; (rw [hI2]; with_reducible refine loopN_normal (m := _) ?_ ⟨k + 1, _, rfl, z, ⟨rfl, by omega⟩, junk (by kernel_rfl)⟩; omega))
  · have hsz := light_says (hlt a (List.mem_of_getElem? ha))
    repeat' ((first
      | ((with_reducible first | apply forkD | apply forkB | apply forkN | apply forkNP | apply forkNot) <;> intro _)
      | with_reducible_and_instances refine ln_rule hl ds23 ?_
      | ((with_reducible_and_instances refine ixa (hl.mono z.inc) ds23 sz39 (by omega) (by omega) (fun a p ha hp => ?_)); have hla := light_says (hlt a (List.mem_of_getElem? ha)))
      | with_reducible_and_instances refine fda0 hp fa39_0 (fun q hq => ?_)
      | with_reducible_and_instances refine fda1 hp fa39_1 (fun q hq => ?_)
      | with_reducible_and_instances refine ld_one hq ag9 ?_
      | ((with_reducible_and_instances refine cat_ruleX ?_ (fun S hS hSz => ?_)); (· omega))
      | ((with_reducible_and_instances apply index_str); (· exact Try.underlying9); (· rfl); (· rfl); (· omega); (· first | omega | exact str_pos (by assumption)))
      | ((with_reducible_and_instances apply unop_not); (· rfl))
      | with_reducible refine D46_40 (z.upW _ _ (by omega)) ?_
      | with_reducible refine D46_68 (z.upW _ _ (by omega)) ?_
      | ((with_reducible refine ⟨z.grw.lay _ _, ?_⟩); (intro _ h' zz x _); (try simp only [lay_lay, List.append_nil] at x); (try replace q0 := q0.over x); (replace z := zz); (clear zz); rw [lay_nil h'])) <;> simp -implicitDefEqProofs only [syms, symx, Nat.reduceAdd, Nat.reduceMul, Int.reduceLT, Int.reduceLE, Int.reduceAdd, Int.reduceSub, Int.reduceToNat, Int.reduceNeg, reduceIte, Nat.reduceGT, Nat.reduceLT, Nat.reduceLeDiff, code46_0, code46_1, code46_2, code46_3, code46_4, code46_5, code46_6, ty46])
    obtain ⟨I5, hI5⟩ : ∃ I : Nat → Env → Heap → Prop, I = (fun n e h' => ∃ (j : Nat) (h1 : Heap), h' = h1.lay [] h1.low ∧ Ext h h1 ∧ (n = S.size - j ∧ j ≤ S.size) ∧ ∃ J : Nat → Value, e = (v :: J 1 :: J 2 :: .int .i64 i :: J 4 :: J 5 :: J 6 :: .string S :: .int .i64 j :: J 9 :: J 10 :: J 11 :: J 12 :: J 13 :: J 14 :: J 15 :: J 16 :: J 17 :: J 18 :: J 19 :: J 20 :: J 21 :: J 22 :: J 23 :: J 24 :: J 25 :: J 26 :: J 27 :: J 28 :: J 29 :: J 30 :: J 31 :: J 32 :: J 33 :: J 34 :: J 35 :: J 36 :: J 37 :: J 38 :: J 39 :: J 40 :: J 41 :: J 42 :: J 43 :: J 44 :: J 45 :: J 46 :: J 47 :: J 48 :: J 49 :: J 50 :: J 51 :: J 52 :: J 53 :: J 54 :: J 55 :: J 56 :: J 57 :: J 58 :: J 59 :: J 60 :: J 61 :: J 62 :: J 63 :: J 64 :: J 65 :: J 66 :: J 67 :: J 68 :: J 69 :: J 70 :: J 71 :: J 72 :: J 73 :: J 74 :: J 75 :: J 76 :: J 77 :: J 78 :: J 79 :: J 80 :: J 81 :: J 82 :: J 83 :: J 84 :: J 85 :: J 86 :: J 87 :: J 88 :: J 89 :: J 90 :: J 91 :: J 92 :: J 93 :: J 94 :: J 95 :: J 96 :: J 97 :: J 98 :: J 99 :: J 100 :: J 101 :: J 102 :: J 103 :: J 104 :: J 105 :: J 106 :: J 107 :: J 108 :: J 109 :: J 110 :: J 111 :: J 112 :: J 113 :: J 114 :: J 115 :: J 116 :: J 117 :: J 118 :: J 119 :: J 120 :: J 121 :: J 122 :: J 123 :: J 124 :: J 125 :: J 126 :: J 127 :: J 128 :: J 129 :: J 130 :: J 131 :: J 132 :: J 133 :: J 134 :: J 135 :: J 136 :: J 137 :: J 138 :: J 139 :: J 140 :: J 141 :: J 142 :: J 143 :: J 144 :: J 145 :: J 146 :: J 147 :: J 148 :: J 149 :: J 150 :: J 151 :: J 152 :: [])) := ⟨_, rfl⟩
    refine W_loopN I5 _ (by rw [hI5]; exact ⟨0, _, rfl, z, ⟨rfl, by omega⟩, junk (by kernel_rfl)⟩) ?_
    intro n e h' hin
    rw [hI5] at hin
    obtain ⟨j, h3', rfl, z, hinv, J, rfl⟩ := hin
    obtain ⟨rfl, hj⟩ := hinv
    have hwj : IntKind.i64.wrap ((j : Int) + 1) = ((j + 1 : Nat) : Int) := by rw [wrap_i64 (by omega) (by omega)]; omega
    simp -implicitDefEqProofs only [syms, symx, Nat.reduceAdd, Nat.reduceMul, Int.reduceLT, Int.reduceLE, Int.reduceAdd, Int.reduceSub, Int.reduceToNat, Int.reduceNeg, reduceIte, Nat.reduceGT, Nat.reduceLT, Nat.reduceLeDiff, code46_0, code46_1, code46_2, code46_3, code46_4, code46_5, code46_6, ty46]
    repeat' ((first
      | ((with_reducible first | apply forkD | apply forkB | apply forkN | apply forkNP | apply forkNot) <;> intro _)
      | with_reducible_and_instances refine ln_rule hl ds23 ?_
      | ((with_reducible_and_instances refine ixa (hl.mono z.inc) ds23 sz39 (by omega) (by omega) (fun a p ha hp => ?_)); have hla := light_says (hlt a (List.mem_of_getElem? ha)))
      | with_reducible_and_instances refine fda0 hp fa39_0 (fun q hq => ?_)
      | with_reducible_and_instances refine fda1 hp fa39_1 (fun q hq => ?_)
      | with_reducible_and_instances refine ld_one hq ag9 ?_
      | ((with_reducible_and_instances refine cat_ruleX ?_ (fun S hS hSz => ?_)); (· omega))
      | ((with_reducible_and_instances apply index_str); (· exact Try.underlying9); (· rfl); (· rfl); (· omega); (· first | omega | exact str_pos (by assumption)))
      | ((with_reducible_and_instances apply unop_not); (· rfl))
      | with_reducible refine D46_40 (z.upW _ _ (by omega)) ?_
      | with_reducible refine D46_68 (z.upW _ _ (by omega)) ?_
      | ((with_reducible refine ⟨z.grw.lay _ _, ?_⟩); (intro _ h' zz x _); (try simp only [lay_lay, List.append_nil] at x); (try replace q0 := q0.over x); (replace z := zz); (clear zz); rw [lay_nil h'])) <;> simp -implicitDefEqProofs only [syms, symx, Nat.reduceAdd, Nat.reduceMul, Int.reduceLT, Int.reduceLE, Int.reduceAdd, Int.reduceSub, Int.reduceToNat, Int.reduceNeg, reduceIte, Nat.reduceGT, Nat.reduceLT, Nat.reduceLeDiff, code46_0, code46_1, code46_2, code46_3, code46_4, code46_5, code46_6, ty46])
    all_goals first
      | with_reducible exact hk _ _ (z.upW _ _ (by omega))
      | (rw [hwj]; (rw [hI5]; with_reducible refine loopN_normal (m := _) ?_ ⟨j + 1, _, rfl, z, ⟨rfl, by omega⟩, junk (by kernel_rfl)⟩; omega))
      | (rw [hw (by omega)]; (rw [hI1]; with_reducible refine loopN_normal (m := _) ?_ ⟨i + 1, _, rfl, z, ⟨rfl, by omega⟩, junk (by kernel_rfl)⟩; omega))
end Go.Proofs.Ytompindebndddaa
namespace Go.Proofs.Ytompindebndddaa
open Go.Am
set_option linter.unusedSimpArgs false
set_option linter.unusedVariables false
set_option maxRecDepth 100000
set_option maxHeartbeats 0
theorem bs1_atom (a : AtomD) (h : Heap) : buildSliceA tab 23 1 [(0, a.val)] h = some (.slice (some ⟨h.size, 0, none⟩) 1 1, h.push (.row a.cells 39 false)) := by kernel_rfl
theorem light_one {a : AtomD} (h : a.light = true) : ∀ x ∈ [a], x.light = true := by simpa using h
theorem ok_pick (n m : Int) (h : Heap) (K : Value → Heap → Prop) (hm : m ≤ 4611686018427387904) (hk : K (.int .i64 (pickD n m)) h) : Ok Try.prog tab ov 24 [.int .i64 n, .int .i64 m] h K := by
  refine Ok.into rfl tab_fn24 body24 rfl (m := 15) rfl ?_
  simp -implicitDefEqProofs only [syms, symx, Nat.reduceAdd, Nat.reduceMul, Int.reduceLT, Int.reduceLE, Int.reduceAdd, Int.reduceSub, Int.reduceToNat, Int.reduceNeg, reduceIte, Nat.reduceGT, Nat.reduceLT, Nat.reduceLeDiff, code24_0, code24_1, ty24]
  refine forkD (fun c => ?_) (fun c => ?_)
  · simp -implicitDefEqProofs only [syms, symx, Nat.reduceAdd, Nat.reduceMul, Int.reduceLT, Int.reduceLE, Int.reduceAdd, Int.reduceSub, Int.reduceToNat, Int.reduceNeg, reduceIte, Nat.reduceGT, Nat.reduceLT, Nat.reduceLeDiff, code24_0, code24_1, ty24]
    have : pickD n m = 0 := by unfold pickD; rw [if_pos c]
    rw [this] at hk
    exact hk
  have hb := pickD_lt n m (by omega)
  have hd : pickD n m = if n.tmod m < 0 then n.tmod m + m else n.tmod m := by unfold pickD; rw [if_neg c]
  simp -implicitDefEqProofs only [syms, symx, Nat.reduceAdd, Nat.reduceMul, Int.reduceLT, Int.reduceLE, Int.reduceAdd, Int.reduceSub, Int.reduceToNat, Int.reduceNeg, reduceIte, Nat.reduceGT, Nat.reduceLT, Nat.reduceLeDiff, code24_0, code24_1, ty24]
  rw [bin_rem (by omega)]
  simp -implicitDefEqProofs only [syms, symx, Nat.reduceAdd, Nat.reduceMul, Int.reduceLT, Int.reduceLE, Int.reduceAdd, Int.reduceSub, Int.reduceToNat, Int.reduceNeg, reduceIte, Nat.reduceGT, Nat.reduceLT, Nat.reduceLeDiff, code24_0, code24_1, ty24]
  refine forkD (fun c2 => ?_) (fun c2 => ?_)
  · rw [if_pos c2] at hd
    rw [hd] at hk hb
    simp -implicitDefEqProofs only [syms, symx, Nat.reduceAdd, Nat.reduceMul, Int.reduceLT, Int.reduceLE, Int.reduceAdd, Int.reduceSub, Int.reduceToNat, Int.reduceNeg, reduceIte, Nat.reduceGT, Nat.reduceLT, Nat.reduceLeDiff, code24_0, code24_1, ty24]
    rw [wrap_i64 (by omega) (by omega)]
    exact hk
  · rw [if_neg c2] at hd
    rw [hd] at hk
    simp -implicitDefEqProofs only [syms, symx, Nat.reduceAdd, Nat.reduceMul, Int.reduceLT, Int.reduceLE, Int.reduceAdd, Int.reduceSub, Int.reduceToNat, Int.reduceNeg, reduceIte, Nat.reduceGT, Nat.reduceLT, Nat.reduceLeDiff, code24_0, code24_1, ty24]
    exact hk
/-- A list in memory of its own. -/
theorem ok_own (l : List AtomD) (v : Value) (h : Heap) (hl : Sl Rep.atom h v l) (hn : l.length ≤ 1000000) (K : Value → Heap → Prop) (hk : ∀ w A h', Ext h h' → Ow Rep.atom h h' 39 A w l → (A < h.size → False) → K w h') : Ok Try.prog tab ov 27 [v] h K := by
  rw [lay_nil h]
  refine Ok.into rfl tab_fn27 body27 rfl (m := 5) rfl ?_
  simp -implicitDefEqProofs only [syms, symx, Nat.reduceAdd, Nat.reduceMul, Int.reduceLT, Int.reduceLE, Int.reduceAdd, Int.reduceSub, Int.reduceToNat, Int.reduceNeg, reduceIte, Nat.reduceGT, Nat.reduceLT, Nat.reduceLeDiff, code27_0, ty27, w_append, sty23]
  obtain ⟨news, hs, hsr⟩ := src_sl (A := h.size + 1) (r := Rep.atom) (by decide) (hl.lay [.row [] 39 false] h.low) (fun cs y hr => hr)
  have f : Ow Rep.atom h (h.lay [.row [] 39 false] h.low) 39 (h.size + 1) (.slice (some ⟨h.size + 0, 0, none⟩) 0 0) [] :=
    .inl ⟨by omega, rfl, .inr ⟨h.size + 0, 0, rfl, by omega, by rw [lay_size]; simp, [], 39, false, by rw [lay_get]; rfl⟩⟩
  obtain ⟨w, h', A', e1, e2, e3, e4, e5⟩ := app_ow (t := 23) ds23 tab_info39 rfl (by decide) (by rw [lay_size]; omega) f hs hsr (by simp only [List.length_nil]; omega) (by simp only [List.length_nil]; omega)
  rw [e1]
  simp -implicitDefEqProofs only [syms, symx, Nat.reduceAdd, Nat.reduceMul, Int.reduceLT, Int.reduceLE, Int.reduceAdd, Int.reduceSub, Int.reduceToNat, Int.reduceNeg, reduceIte, Nat.reduceGT, Nat.reduceLT, Nat.reduceLeDiff, code27_0, ty27]
  exact hk _ _ _ ((Ext.refl h).stepW e3 (by omega) (by omega)) e2 (by omega)
theorem ok_lightReasons (l : List ReasonD) (v : Value) (h : Heap) (hl : Sl Rep.reason h v l) (K : Value → Heap → Prop) (h1 : l.length ≤ 40 → (∀ r ∈ l, r.body.length ≤ 6) → ∀ h', Ext h h' → K (.bool true) h') (h2 : ∀ h', Ext h h' → K (.bool false) h') : Ok Try.prog tab ov 15 [v] h K := by
  rw [lay_nil h]
  have z := Ext.refl h
  refine Ok.into rfl tab_fn15 body15 rfl (m := 47) rfl ?_
  simp -implicitDefEqProofs only [syms, symx, Nat.reduceAdd, Nat.reduceMul, Int.reduceLT, Int.reduceLE, Int.reduceAdd, Int.reduceSub, Int.reduceToNat, Int.reduceNeg, reduceIte, Nat.reduceGT, Nat.reduceLT, Nat.reduceLeDiff, code15_0, code15_1, code15_2, ty15]
  repeat' ((first
    | ((with_reducible first | apply forkD | apply forkB | apply forkN | apply forkNP | apply forkNot) <;> intro _)
    | with_reducible_and_instances refine ln_rule hl ds24 ?_
    | ((with_reducible_and_instances apply unop_not); (· rfl))) <;> simp -implicitDefEqProofs only [syms, symx, Nat.reduceAdd, Nat.reduceMul, Int.reduceLT, Int.reduceLE, Int.reduceAdd, Int.reduceSub, Int.reduceToNat, Int.reduceNeg, reduceIte, Nat.reduceGT, Nat.reduceLT, Nat.reduceLeDiff, code15_0, code15_1, code15_2, ty15])
  · exact h2 _ (z.upW _ _ (by omega))
  obtain ⟨I1, hI1⟩ : ∃ I : Nat → Env → Heap → Prop, I = (fun n e h' => ∃ (i : Nat) (h1 : Heap), h' = h1.lay [] h1.low ∧ Ext h h1 ∧ (n = l.length - i ∧ i ≤ l.length ∧ ∀ r ∈ l.take i, r.body.length ≤ 6) ∧ ∃ J : Nat → Value, e = (v :: J 1 :: J 2 :: .int .i64 i :: J 4 :: J 5 :: J 6 :: J 7 :: J 8 :: J 9 :: J 10 :: J 11 :: J 12 :: J 13 :: J 14 :: J 15 :: J 16 :: J 17 :: J 18 :: J 19 :: J 20 :: J 21 :: J 22 :: J 23 :: J 24 :: J 25 :: J 26 :: J 27 :: J 28 :: J 29 :: J 30 :: J 31 :: J 32 :: J 33 :: J 34 :: J 35 :: J 36 :: J 37 :: J 38 :: J 39 :: J 40 :: J 41 :: J 42 :: J 43 :: J 44 :: J 45 :: J 46 :: J 47 :: [])) := ⟨_, rfl⟩
  refine W_loopN I1 _ (by rw [hI1]; exact ⟨0, _, rfl, z, ⟨rfl, by omega, by simp⟩, junk (by kernel_rfl)⟩) ?_
  intro n e h' hin
  rw [hI1] at hin
  obtain ⟨i, h1', rfl, z, hinv, J, rfl⟩ := hin
  obtain ⟨rfl, hi, hall⟩ := hinv
  have hw : IntKind.i64.wrap ((i : Int) + 1) = ((i + 1 : Nat) : Int) := by rw [wrap_i64 (by omega) (by omega)]; omega
  simp -implicitDefEqProofs only [syms, symx, Nat.reduceAdd, Nat.reduceMul, Int.reduceLT, Int.reduceLE, Int.reduceAdd, Int.reduceSub, Int.reduceToNat, Int.reduceNeg, reduceIte, Nat.reduceGT, Nat.reduceLT, Nat.reduceLeDiff, code15_0, code15_1, code15_2, ty15]
  repeat' ((first
    | ((with_reducible first | apply forkD | apply forkB | apply forkN | apply forkNP | apply forkNot) <;> intro _)
    | with_reducible_and_instances refine ln_rule hl ds24 ?_
    | ((with_reducible_and_instances apply unop_not); (· rfl))) <;> simp -implicitDefEqProofs only [syms, symx, Nat.reduceAdd, Nat.reduceMul, Int.reduceLT, Int.reduceLE, Int.reduceAdd, Int.reduceSub, Int.reduceToNat, Int.reduceNeg, reduceIte, Nat.reduceGT, Nat.reduceLT, Nat.reduceLeDiff, code15_0, code15_1, code15_2, ty15])
  rotate_left
  · exact h1 (by omega) (by rw [List.take_of_length_le (by omega)] at hall; exact hall) _ (z.upW _ _ (by omega))
  obtain ⟨r, hr, hr'⟩ := amElem (l := l) (i := i) (by assumption)
  repeat' ((first
    | ((with_reducible first | apply forkD | apply forkB | apply forkN | apply forkNP | apply forkNot) <;> intro _)
    | with_reducible_and_instances refine ixr_at (hl.mono z.inc) ds24 sz41 (by omega) hr (fun p bd hbd hp => ?_)
    | with_reducible_and_instances refine fdr0 hp fa41_0 (fun p hp => ?_)
    | with_reducible_and_instances refine fdr2 hp fa41_2 (fun q hq => ?_)
    | with_reducible_and_instances refine lda hp ag39 sz39 ?_
    | with_reducible_and_instances refine ld_one hq ag23 ?_
    | ((with_reducible_and_instances refine ok_light _ _ _ (fun hla h' x => ?_) (fun hla h' x => ?_)) <;> ((skip); replace z := z.overW x (by (try simp only [lay_size, List.length_cons, List.length_nil]); omega); rw [lay_nil h']))
    | ((with_reducible_and_instances refine ok_lights _ _ _ _ (hbd.mono (Inc.lay _ _ _)) _ (fun hlen hlb h' x => ?_) (fun h' x => ?_)) <;> ((skip); replace z := z.overW x (by (try simp only [lay_size, List.length_cons, List.length_nil]); omega); rw [lay_nil h']))
    | ((with_reducible_and_instances refine ok_plain _ _ _ sl_laid1 (by simp) (light_one (by assumption)) _ (fun b h' x => ?_)) <;> ((skip); replace z := z.overW x (by (try simp only [lay_size, List.length_cons, List.length_nil]); omega); rw [lay_nil h']))
    | ((with_reducible_and_instances refine ok_plain _ _ _ (hbd.mono (Inc.lay _ _ _)) (by omega) (by assumption) _ (fun b h' x => ?_)) <;> ((skip); replace z := z.overW x (by (try simp only [lay_size, List.length_cons, List.length_nil]); omega); rw [lay_nil h']))
    | ((with_reducible_and_instances apply unop_not); (· rfl))) <;> simp -implicitDefEqProofs only [syms, symx, Nat.reduceAdd, Nat.reduceMul, Int.reduceLT, Int.reduceLE, Int.reduceAdd, Int.reduceSub, Int.reduceToNat, Int.reduceNeg, reduceIte, Nat.reduceGT, Nat.reduceLT, Nat.reduceLeDiff, code15_0, code15_1, code15_2, ty15, fill_atom])
  all_goals first
    | with_reducible exact h2 _ (z.upW _ _ (by omega))
    | (rw [hw]; (rw [hI1]; with_reducible refine loopN_normal (m := _) ?_ ⟨i + 1, _, rfl, z, ⟨rfl, by omega, take_all (i := i) (P := fun r : ReasonD => r.body.length ≤ 6) hr' hall (by show r.body.length ≤ 6; omega)⟩, junk (by kernel_rfl)⟩; omega))
end Go.Proofs.Ytompindebndddaa
namespace Go.Proofs.Ytompindebndddaa
open Go.Am
set_option linter.unusedSimpArgs false
set_option linter.unusedVariables false
set_option maxRecDepth 100000
set_option maxHeartbeats 0
theorem ok_lightClauses (l : List ClauseD) (facts : List AtomD) (v w : Value) (h : Heap) (hl : Sl Rep.clause h v l) (hf : Sl Rep.atom h w facts) (K : Value → Heap → Prop)
    (h1 : l.length ≤ 6 → facts.length ≤ 12 → (∀ r ∈ l, r.body.length ≤ 3) → ∀ h', Ext h h' → K (.bool true) h') (h2 : ∀ h', Ext h h' → K (.bool false) h') : Ok Try.prog tab ov 14 [v, w] h K := by
  rw [lay_nil h]
  have z := Ext.refl h
  refine Ok.into rfl tab_fn14 body14 rfl (m := 34) rfl ?_
  simp -implicitDefEqProofs only [syms, symx, Nat.reduceAdd, Nat.reduceMul, Int.reduceLT, Int.reduceLE, Int.reduceAdd, Int.reduceSub, Int.reduceToNat, Int.reduceNeg, reduceIte, Nat.reduceGT, Nat.reduceLT, Nat.reduceLeDiff, code14_0, code14_1, ty14]
  repeat' ((first
    | ((with_reducible first | apply forkD | apply forkB | apply forkN | apply forkNP | apply forkNot) <;> intro _)
    | with_reducible_and_instances refine ln_rule hl ds22 ?_
    | ((with_reducible_and_instances refine ok_lights _ _ _ _ ((hf.mono z.inc).lay _ _) _ (fun hlf hfl h' x => ?_) (fun h' x => ?_)) <;> ((skip); replace z := z.overW x (by (try simp only [lay_size, List.length_cons, List.length_nil]); omega); rw [lay_nil h']))
    | ((with_reducible_and_instances apply unop_not); (· rfl))) <;> simp -implicitDefEqProofs only [syms, symx, Nat.reduceAdd, Nat.reduceMul, Int.reduceLT, Int.reduceLE, Int.reduceAdd, Int.reduceSub, Int.reduceToNat, Int.reduceNeg, reduceIte, Nat.reduceGT, Nat.reduceLT, Nat.reduceLeDiff, code14_0, code14_1, ty14])
  all_goals try exact h2 _ (z.upW _ _ (by omega))
  obtain ⟨I1, hI1⟩ : ∃ I : Nat → Env → Heap → Prop, I = (fun n e h' => ∃ (i : Nat) (h1 : Heap), h' = h1.lay [] h1.low ∧ Ext h h1 ∧ (n = l.length - i ∧ i ≤ l.length ∧ ∀ r ∈ l.take i, r.body.length ≤ 3) ∧ ∃ J : Nat → Value, e = (v :: J 1 :: J 2 :: J 3 :: J 4 :: .int .i64 i :: J 6 :: J 7 :: J 8 :: J 9 :: J 10 :: J 11 :: J 12 :: J 13 :: J 14 :: J 15 :: J 16 :: J 17 :: J 18 :: J 19 :: J 20 :: J 21 :: J 22 :: J 23 :: J 24 :: J 25 :: J 26 :: J 27 :: J 28 :: J 29 :: J 30 :: J 31 :: J 32 :: J 33 :: J 34 :: J 35 :: [])) := ⟨_, rfl⟩
  refine W_loopN I1 _ (by rw [hI1]; exact ⟨0, _, rfl, z, ⟨rfl, by omega, by simp⟩, junk (by kernel_rfl)⟩) ?_
  intro n e h' hin
  rw [hI1] at hin
  obtain ⟨i, h1', rfl, z, hinv, J, rfl⟩ := hin
  obtain ⟨rfl, hi, hall⟩ := hinv
  have hw : IntKind.i64.wrap ((i : Int) + 1) = ((i + 1 : Nat) : Int) := by rw [wrap_i64 (by omega) (by omega)]; omega
  simp -implicitDefEqProofs only [syms, symx, Nat.reduceAdd, Nat.reduceMul, Int.reduceLT, Int.reduceLE, Int.reduceAdd, Int.reduceSub, Int.reduceToNat, Int.reduceNeg, reduceIte, Nat.reduceGT, Nat.reduceLT, Nat.reduceLeDiff, code14_0, code14_1, ty14]
  repeat' ((first
    | ((with_reducible first | apply forkD | apply forkB | apply forkN | apply forkNP | apply forkNot) <;> intro _)
    | with_reducible_and_instances refine ln_rule hl ds22 ?_
    | ((with_reducible_and_instances refine ok_lights _ _ _ _ ((hf.mono z.inc).lay _ _) _ (fun hlf hfl h' x => ?_) (fun h' x => ?_)) <;> ((skip); replace z := z.overW x (by (try simp only [lay_size, List.length_cons, List.length_nil]); omega); rw [lay_nil h']))
    | ((with_reducible_and_instances apply unop_not); (· rfl))) <;> simp -implicitDefEqProofs only [syms, symx, Nat.reduceAdd, Nat.reduceMul, Int.reduceLT, Int.reduceLE, Int.reduceAdd, Int.reduceSub, Int.reduceToNat, Int.reduceNeg, reduceIte, Nat.reduceGT, Nat.reduceLT, Nat.reduceLeDiff, code14_0, code14_1, ty14])
  rotate_left
  · exact h1 (by omega) (by omega) (by rw [List.take_of_length_le (by omega)] at hall; exact hall) _ (z.upW _ _ (by omega))
  obtain ⟨r, hr, hr'⟩ := amElem (l := l) (i := i) (by assumption)
  repeat' ((first
    | ((with_reducible first | apply forkD | apply forkB | apply forkN | apply forkNP | apply forkNot) <;> intro _)
    | with_reducible_and_instances refine ixc_at (hl.mono z.inc) ds22 sz47 (by omega) hr (fun p bd hbd hp => ?_)
    | with_reducible_and_instances refine fdc0 hp fa47_0 (fun p hp => ?_)
    | with_reducible_and_instances refine fdc1 hp fa47_1 (fun q hq => ?_)
    | with_reducible_and_instances refine lda hp ag39 sz39 ?_
    | with_reducible_and_instances refine ld_one hq ag23 ?_
    | ((with_reducible_and_instances refine ok_light _ _ _ (fun hla h' x => ?_) (fun hla h' x => ?_)) <;> ((skip); replace z := z.overW x (by (try simp only [lay_size, List.length_cons, List.length_nil]); omega); rw [lay_nil h']))
    | ((with_reducible_and_instances refine ok_lights _ _ _ _ (hbd.mono (Inc.lay _ _ _)) _ (fun hlen hlb h' x => ?_) (fun h' x => ?_)) <;> ((skip); replace z := z.overW x (by (try simp only [lay_size, List.length_cons, List.length_nil]); omega); rw [lay_nil h']))
    | ((with_reducible_and_instances apply unop_not); (· rfl))) <;> simp -implicitDefEqProofs only [syms, symx, Nat.reduceAdd, Nat.reduceMul, Int.reduceLT, Int.reduceLE, Int.reduceAdd, Int.reduceSub, Int.reduceToNat, Int.reduceNeg, reduceIte, Nat.reduceGT, Nat.reduceLT, Nat.reduceLeDiff, code14_0, code14_1, ty14])
  all_goals first
    | with_reducible exact h2 _ (z.upW _ _ (by omega))
    | (rw [hw]; (rw [hI1]; with_reducible refine loopN_normal (m := _) ?_ ⟨i + 1, _, rfl, z, ⟨rfl, by omega, take_all (i := i) (P := fun r : ClauseD => r.body.length ≤ 3) hr' hall (by show r.body.length ≤ 3; omega)⟩, junk (by kernel_rfl)⟩; omega))
end Go.Proofs.Ytompindebndddaa
namespace Go.Proofs.Ytompindebndddaa
open Go.Am
set_option linter.unusedSimpArgs false
set_option linter.unusedVariables false
set_option maxRecDepth 100000
set_option maxHeartbeats 0
theorem bld_clause (a : AtomD) (b : Option Addr) (n c : Nat) : buildA tab 47 [(0, a.val), (1, .slice b n c)] = some (.agg ⟨a.cells ++ [.slice b n c]⟩) := by kernel_rfl
theorem ok_ownClauses (l : List ClauseD) (v : Value) (h : Heap) (hl : Sl Rep.clause h v l) (hn : l.length ≤ 1000) (hbn : ∀ c ∈ l, c.body.length ≤ 1000) (K : Value → Heap → Prop) (hk : ∀ w A h', Ext h h' → Ow Rep.clause h h' 47 A w l → K w h') : Ok Try.prog tab ov 26 [v] h K := by
  rw [lay_nil h]
  have z := Ext.refl h
  refine Ok.into rfl tab_fn26 body26 rfl (m := 26) rfl ?_
  simp -implicitDefEqProofs only [syms, symx, Nat.reduceAdd, Nat.reduceMul, Int.reduceLT, Int.reduceLE, Int.reduceAdd, Int.reduceSub, Int.reduceToNat, Int.reduceNeg, reduceIte, Nat.reduceGT, Nat.reduceLT, Nat.reduceLeDiff, code26_0, code26_1, ty26]
  obtain ⟨I1, hI1⟩ : ∃ I : Nat → Env → Heap → Prop, I = (fun n e h' => ∃ (i : Nat) (w : Value) (A : Nat) (h1 : Heap), h' = h1.lay [] h1.low ∧ Ext h h1 ∧ (n = l.length - i ∧ i ≤ l.length ∧ Ow Rep.clause h h1 47 A w (l.take i)) ∧ ∃ J : Nat → Value, e = (v :: J 1 :: J 2 :: w :: .int .i64 i :: J 5 :: J 6 :: J 7 :: J 8 :: J 9 :: J 10 :: J 11 :: J 12 :: J 13 :: J 14 :: J 15 :: J 16 :: J 17 :: J 18 :: J 19 :: J 20 :: J 21 :: J 22 :: J 23 :: J 24 :: J 25 :: J 26 :: [])) := ⟨_, rfl⟩
  refine W_loopN I1 _ (by rw [hI1]; exact ⟨0, .slice none 0 0, h.size, _, rfl, z, ⟨rfl, by omega, Ow.nil (Nat.le_refl _)⟩, junk (by kernel_rfl)⟩) ?_
  intro n e h' hin
  rw [hI1] at hin
  obtain ⟨i, w, A, h1', rfl, z, hinv, J, rfl⟩ := hin
  obtain ⟨rfl, hi, ho⟩ := hinv
  have hw : IntKind.i64.wrap ((i : Int) + 1) = ((i + 1 : Nat) : Int) := by rw [wrap_i64 (by omega) (by omega)]; omega
  have hz := z.size
  simp -implicitDefEqProofs only [syms, symx, Nat.reduceAdd, Nat.reduceMul, Int.reduceLT, Int.reduceLE, Int.reduceAdd, Int.reduceSub, Int.reduceToNat, Int.reduceNeg, reduceIte, Nat.reduceGT, Nat.reduceLT, Nat.reduceLeDiff, code26_0, code26_1, ty26]
  repeat' ((first
    | ((with_reducible first | apply forkD | apply forkB | apply forkN | apply forkNP | apply forkNot) <;> intro _)
    | with_reducible_and_instances refine ln_rule hl ds22 ?_
    | ((with_reducible_and_instances apply unop_not); (· rfl))
    | ((with_reducible refine ⟨z.grw.lay _ _, ?_⟩); (intro _ h' zz x _); (try simp only [lay_lay, List.append_nil] at x); (try replace ho := ho.over x); (replace z := zz); (clear zz); rw [lay_nil h'])) <;> simp -implicitDefEqProofs only [syms, symx, Nat.reduceAdd, Nat.reduceMul, Int.reduceLT, Int.reduceLE, Int.reduceAdd, Int.reduceSub, Int.reduceToNat, Int.reduceNeg, reduceIte, Nat.reduceGT, Nat.reduceLT, Nat.reduceLeDiff, code26_0, code26_1, ty26])
  rotate_left
  · rw [List.take_of_length_le (by omega)] at ho
    exact hk _ _ _ (z.upW _ _ (by omega)) (ho.mono (Inc.lay _ _ _))
  obtain ⟨r, hr, hr'⟩ := amElem (l := l) (i := i) (by assumption)
  have hrb := hbn r (List.mem_of_getElem? hr')
  have hlt := ho.lt
  repeat' ((first
    | ((with_reducible first | apply forkD | apply forkB | apply forkN | apply forkNP | apply forkNot) <;> intro _)
    | with_reducible_and_instances refine ixc_at (hl.mono z.inc) ds22 sz47 (by omega) hr (fun p bd hbd hp => ?_)
    | with_reducible_and_instances refine fdc0 hp fa47_0 (fun p hp => ?_)
    | with_reducible_and_instances refine fdc1 hp fa47_1 (fun q hq => ?_)
    | with_reducible_and_instances refine lda hp ag39 sz39 ?_
    | with_reducible_and_instances refine ld_one hq ag23 ?_
    | ((with_reducible_and_instances apply unop_not); (· rfl))
    | with_reducible refine D26_17 (z.upW _ _ (by omega)) ?_
    | ((with_reducible refine ⟨z.grw.lay _ _, ?_⟩); (intro _ h' zz x _); (try simp only [lay_lay, List.append_nil] at x); (try replace ho := ho.over x); (replace z := zz); (clear zz); rw [lay_nil h'])) <;> simp -implicitDefEqProofs only [syms, symx, Nat.reduceAdd, Nat.reduceMul, Int.reduceLT, Int.reduceLE, Int.reduceAdd, Int.reduceSub, Int.reduceToNat, Int.reduceNeg, reduceIte, Nat.reduceGT, Nat.reduceLT, Nat.reduceLeDiff, code26_0, code26_1, ty26])
  refine ok_own _ _ _ (hbd.lay _ _) (by omega) _ (fun w2 A2 h' x o2 hA2 => ?_)
  ((first | ((with_reducible refine KOpsX_call ?_ ?_ ?_); (· exact (by (try simp only [lay_size, List.length_cons, List.length_nil]); have := z.size; omega)); (· first | exact x | simpa only [lay_lay, lay_size, List.append_nil, List.length_cons, List.length_nil, Nat.add_zero] using x)) | skip); replace z := z.overW x (by (try simp only [lay_size, List.length_cons, List.length_nil]); omega); (try replace ho := ho.over x); rw [lay_nil h'])
  obtain ⟨wa, wn, wc, rfl⟩ := o2.slice
  simp -implicitDefEqProofs only [syms, symx, Nat.reduceAdd, Nat.reduceMul, Int.reduceLT, Int.reduceLE, Int.reduceAdd, Int.reduceSub, Int.reduceToNat, Int.reduceNeg, reduceIte, Nat.reduceGT, Nat.reduceLT, Nat.reduceLeDiff, code26_0, code26_1, ty26, bld_clause, fill_clause]
  refine KOpsX_alloc (by have := z.size; omega) (by omega) ?_
  simp -implicitDefEqProofs only [syms, symx, Nat.reduceAdd, Nat.reduceMul, Int.reduceLT, Int.reduceLE, Int.reduceAdd, Int.reduceSub, Int.reduceToNat, Int.reduceNeg, reduceIte, Nat.reduceGT, Nat.reduceLT, Nat.reduceLeDiff, code26_0, code26_1, ty26, w_append, sty22]
  have hlen : (l.take i).length ≤ 1000 := by rw [List.length_take]; omega
  have hHs : (h'.lay [Blk.row (r.head.cells ++ [Value.slice wa wn wc]) 47 false] (h'.size + 1)).size = h'.size + 1 := by rw [lay_size]; rfl
  have hzz := z.size
  have hzx : h1'.size ≤ h'.size := by have := x.size; rw [lay_size] at this; simpa using this
  obtain ⟨A', hoA, hA'⟩ : ∃ A', Ow Rep.clause h (h'.lay [Blk.row (r.head.cells ++ [Value.slice wa wn wc]) 47 false] (h'.size + 1)) 47 A' w (l.take i) ∧ (A' < h1'.size ∨ h'.size + 1 ≤ A') := by
    rcases hlt with hlt | hlt
    · exact ⟨A, ho.mono (Inc.lay _ _ _), .inl hlt⟩
    · rw [hlt] at ho
      refine ⟨h'.size + 1, ?_, .inr (Nat.le_refl _)⟩
      rw [hlt]
      exact (ho.mono (Inc.lay _ _ _)).any _ (by omega)
  have hR : Rep.clause.R (kill A' (h'.lay [Blk.row (r.head.cells ++ [Value.slice wa wn wc]) 47 false] (h'.size + 1))) (r.head.cells ++ [Value.slice wa wn wc]) r :=
    ⟨_, rfl, (o2.mono (Inc.lay _ _ _)).under (by decide) (fun _ _ _ _ h => h) (by rw [lay_size, hHs]; simpa using hA')⟩
  obtain ⟨hs, hsr⟩ := src_row (r := Rep.clause) (c := 1) (by decide) (show (h'.lay [Blk.row (r.head.cells ++ [Value.slice wa wn wc]) 47 false] (h'.size + 1)).get (h'.size + 0) = some (.row (r.head.cells ++ [Value.slice wa wn wc]) 47 false) by rw [lay_get]; rfl) hR
  obtain ⟨w', h'', A'', e1, e2, e3, e4, e5⟩ := app_ow (t := 22) ds22 tab_info47 rfl (by decide) (by rw [hHs]; omega) hoA hs hsr (by omega) (by omega)
  have hfA := hoA.fresh
  rw [e1]
  simp -implicitDefEqProofs only [syms, symx, Nat.reduceAdd, Nat.reduceMul, Int.reduceLT, Int.reduceLE, Int.reduceAdd, Int.reduceSub, Int.reduceToNat, Int.reduceNeg, reduceIte, Nat.reduceGT, Nat.reduceLT, Nat.reduceLeDiff, code26_0, code26_1, ty26]
  refine KOpsX_chg (A := A') (by kernel_rfl) (by rw [lay_size]; omega) (by omega) (by simpa only [lay_lay, lay_size, List.append_nil, List.length_cons, List.length_nil, Nat.zero_add] using e3) ?_
  replace z := (z.upW [Blk.row (r.head.cells ++ [Value.slice wa wn wc]) 47 false] (h'.size + 1) (by omega)).step e3 hfA
  have htk : l.take (i + 1) = l.take i ++ [r] := by rw [List.take_add_one, hr']; rfl
  rw [← htk] at e2
  clear ho o2 hoA
  rw [lay_nil h'']
  simp -implicitDefEqProofs only [syms, symx, Nat.reduceAdd, Nat.reduceMul, Int.reduceLT, Int.reduceLE, Int.reduceAdd, Int.reduceSub, Int.reduceToNat, Int.reduceNeg, reduceIte, Nat.reduceGT, Nat.reduceLT, Nat.reduceLeDiff, code26_0, code26_1, ty26]
  repeat' ((first
    | ((with_reducible first | apply forkD | apply forkB | apply forkN | apply forkNP | apply forkNot) <;> intro _)
    | with_reducible_and_instances refine ixc_at (hl.mono z.inc) ds22 sz47 (by omega) hr (fun p bd hbd hp => ?_)
    | with_reducible_and_instances refine fdc0 hp fa47_0 (fun p hp => ?_)
    | with_reducible_and_instances refine fdc1 hp fa47_1 (fun q hq => ?_)
    | with_reducible_and_instances refine lda hp ag39 sz39 ?_
    | with_reducible_and_instances refine ld_one hq ag23 ?_
    | ((with_reducible_and_instances apply unop_not); (· rfl))
    | with_reducible refine D26_17 (z.upW _ _ (by omega)) ?_
    | ((with_reducible refine ⟨z.grw.lay _ _, ?_⟩); (intro _ h' zz x _); (try simp only [lay_lay, List.append_nil] at x); (try replace e2 := e2.over x); (replace z := zz); (clear zz); rw [lay_nil h'])) <;> simp -implicitDefEqProofs only [syms, symx, Nat.reduceAdd, Nat.reduceMul, Int.reduceLT, Int.reduceLE, Int.reduceAdd, Int.reduceSub, Int.reduceToNat, Int.reduceNeg, reduceIte, Nat.reduceGT, Nat.reduceLT, Nat.reduceLeDiff, code26_0, code26_1, ty26])
  rw [hw]
  (rw [hI1]; with_reducible refine loopN_normal (m := _) ?_ ⟨i + 1, _, _, _, rfl, z, ⟨rfl, by omega, e2⟩, junk (by kernel_rfl)⟩; omega)
end Go.Proofs.Ytompindebndddaa
namespace Go.Proofs.Ytompindebndddaa
open Go.Am
set_option linter.unusedSimpArgs false
set_option linter.unusedVariables false
set_option maxRecDepth 100000
set_option maxHeartbeats 0
theorem cut_cl12 (a : AtomD) (u : Value) : cut (a.cells ++ [u]) 0 12 = some (a.cells ++ [u]) := rfl
theorem sl_laidC {h : Heap} {c : ClauseD} {b : Value} {u : TypeId} {ro : Bool} {w : Nat} (hb : Sl Rep.atom h b c.body) : Sl Rep.clause (h.lay [.row (c.head.cells ++ [b]) u ro] w) (.slice (some ⟨h.size + 0, 0, none⟩) 1 1) [c] := by
  refine .inr ⟨h.size + 0, 0, 1, c.head.cells ++ [b], u, ro, rfl, (by show 1 ≤ maxLen; decide), .inl ⟨by decide, Nat.le_refl _⟩, by rw [lay_size]; simp, by rw [lay_get]; rfl, fun i x hx => ?_⟩
  cases i with
  | zero =>
    simp at hx
    subst hx
    exact ⟨_, rfl, b, rfl, hb.lay _ _⟩
  | succ i => simp at hx
theorem inc_killG {h H : Heap} {A : Nat} (i : Inc h H) (hA : h.size ≤ A) : Inc h (kill A H) := ⟨by rw [kill_size]; exact i.size, fun B hB hd => by
  unfold kill
  split
  · rename_i hh
    rw [Heap.get_set _ _ _ _ hh, if_neg (by omega)]
    exact i.get B hB hd
  · exact i.get B hB hd⟩
theorem inc_chg {a b d : Heap} {A : Nat} (i : Inc a b) (c : Chg A b d) (hA : a.size ≤ A) : Inc a d := ⟨Nat.le_trans i.size c.size, fun B hB hd => (c.get B (Nat.lt_of_lt_of_le hB i.size) (by omega)).trans (i.get B hB hd)⟩
theorem ok_fronts (cl : List ClauseD) (facts more : List AtomD) (l : List ReasonD) (cut : Int) (c : ClauseD) (cv fv v mv b : Value) (h : Heap) (hc : Sl Rep.clause h cv cl) (hf : Sl Rep.atom h fv facts) (hl : Sl Rep.reason h v l) (hm : Sl Rep.atom h mv more) (hb : Sl Rep.atom h b c.body) (K : Value → Heap → Prop)
    (hk : ∀ h', Ext h h' → K (.bool true) h') : Ok Try.prog tab ov 4 [cv, fv, v, .int .i64 cut, mv, .agg ⟨c.head.cells ++ [b]⟩] h K := by
  rw [lay_nil h]
  have z := Ext.refl h
  refine Ok.into rfl tab_fn4 body4 rfl (m := 108) rfl ?_
  simp -implicitDefEqProofs only [syms, symx, Nat.reduceAdd, Nat.reduceMul, Int.reduceLT, Int.reduceLE, Int.reduceAdd, Int.reduceSub, Int.reduceToNat, Int.reduceNeg, reduceIte, Nat.reduceGT, Nat.reduceLT, Nat.reduceLeDiff, code4_0, code4_1, code4_2, code4_3, code4_4, ty4]
  refine Ok.over (g := trueA) rfl rfl ?_
  simp -implicitDefEqProofs only [syms, symx, Nat.reduceAdd, Nat.reduceMul, Int.reduceLT, Int.reduceLE, Int.reduceAdd, Int.reduceSub, Int.reduceToNat, Int.reduceNeg, reduceIte, Nat.reduceGT, Nat.reduceLT, Nat.reduceLeDiff, code4_0, code4_1, code4_2, code4_3, code4_4, ty4]
  repeat' ((first
    | ((with_reducible first | apply forkD | apply forkB | apply forkN | apply forkNP | apply forkNot) <;> intro _)
    | ((with_reducible_and_instances apply unop_not); (· rfl))
    | ((with_reducible refine ⟨z.grw.lay _ _, ?_⟩); (intro _ h' zz x _); (try simp only [lay_lay, List.append_nil] at x); (replace z := zz); (clear zz); rw [lay_nil h'])) <;> simp -implicitDefEqProofs only [syms, symx, Nat.reduceAdd, Nat.reduceMul, Int.reduceLT, Int.reduceLE, Int.reduceAdd, Int.reduceSub, Int.reduceToNat, Int.reduceNeg, reduceIte, Nat.reduceGT, Nat.reduceLT, Nat.reduceLeDiff, code4_0, code4_1, code4_2, code4_3, code4_4, ty4])
  refine ok_lightClauses cl facts _ _ _ ((hc.mono z.inc).lay _ _) ((hf.mono z.inc).lay _ _) _ (fun e1 e2 e3 h' x => ?_) (fun h' x => ?_)
  rotate_left
  · ((first | ((with_reducible refine KOpsX_call ?_ ?_ ?_); (· exact (by (try simp only [lay_size, List.length_cons, List.length_nil]); have := z.size; omega)); (· first | exact x | simpa only [lay_lay, lay_size, List.append_nil, List.length_cons, List.length_nil, Nat.add_zero] using x)) | skip); replace z := z.overW x (by (try simp only [lay_size, List.length_cons, List.length_nil]); omega); rw [lay_nil h'])
    simp -implicitDefEqProofs only [syms, symx, Nat.reduceAdd, Nat.reduceMul, Int.reduceLT, Int.reduceLE, Int.reduceAdd, Int.reduceSub, Int.reduceToNat, Int.reduceNeg, reduceIte, Nat.reduceGT, Nat.reduceLT, Nat.reduceLeDiff, code4_0, code4_1, code4_2, code4_3, code4_4, ty4]
    repeat' ((first
      | ((with_reducible first | apply forkD | apply forkB | apply forkN | apply forkNP | apply forkNot) <;> intro _)
      | ((with_reducible_and_instances apply unop_not); (· rfl))
      | ((with_reducible refine ⟨z.grw.lay _ _, ?_⟩); (intro _ h' zz x _); (try simp only [lay_lay, List.append_nil] at x); (replace z := zz); (clear zz); rw [lay_nil h'])) <;> simp -implicitDefEqProofs only [syms, symx, Nat.reduceAdd, Nat.reduceMul, Int.reduceLT, Int.reduceLE, Int.reduceAdd, Int.reduceSub, Int.reduceToNat, Int.reduceNeg, reduceIte, Nat.reduceGT, Nat.reduceLT, Nat.reduceLeDiff, code4_0, code4_1, code4_2, code4_3, code4_4, ty4])
    exact hk _ (z.upW _ _ (by omega))
  have q0 := Holds.top (i := 0) x rfl
  ((first | ((with_reducible refine KOpsX_call ?_ ?_ ?_); (· exact (by (try simp only [lay_size, List.length_cons, List.length_nil]); have := z.size; omega)); (· first | exact x | simpa only [lay_lay, lay_size, List.append_nil, List.length_cons, List.length_nil, Nat.add_zero] using x)) | skip); replace z := z.overW x (by (try simp only [lay_size, List.length_cons, List.length_nil]); omega); rw [lay_nil h'])
  simp -implicitDefEqProofs only [syms, symx, Nat.reduceAdd, Nat.reduceMul, Int.reduceLT, Int.reduceLE, Int.reduceAdd, Int.reduceSub, Int.reduceToNat, Int.reduceNeg, reduceIte, Nat.reduceGT, Nat.reduceLT, Nat.reduceLeDiff, code4_0, code4_1, code4_2, code4_3, code4_4, ty4]
  repeat' ((first
    | ((with_reducible first | apply forkD | apply forkB | apply forkN | apply forkNP | apply forkNot) <;> intro _)
    | ((with_reducible_and_instances apply unop_not); (· rfl))
    | ((with_reducible refine ⟨z.grw.lay _ _, ?_⟩); (intro _ h' zz x _); (try simp only [lay_lay, List.append_nil] at x); (replace z := zz); (clear zz); rw [lay_nil h'])) <;> simp -implicitDefEqProofs only [syms, symx, Nat.reduceAdd, Nat.reduceMul, Int.reduceLT, Int.reduceLE, Int.reduceAdd, Int.reduceSub, Int.reduceToNat, Int.reduceNeg, reduceIte, Nat.reduceGT, Nat.reduceLT, Nat.reduceLeDiff, code4_0, code4_1, code4_2, code4_3, code4_4, ty4])
  refine ok_lightReasons l _ _ ((hl.mono z.inc).lay _ _) _ (fun e4 e5 h' x => ?_) (fun h' x => ?_)
  rotate_left
  · ((first | ((with_reducible refine KOpsX_call ?_ ?_ ?_); (· exact (by (try simp only [lay_size, List.length_cons, List.length_nil]); have := z.size; omega)); (· first | exact x | simpa only [lay_lay, lay_size, List.append_nil, List.length_cons, List.length_nil, Nat.add_zero] using x)) | skip); replace z := z.overW x (by (try simp only [lay_size, List.length_cons, List.length_nil]); omega); (try replace q0 := q0.over x); rw [lay_nil h'])
    simp -implicitDefEqProofs only [syms, symx, Nat.reduceAdd, Nat.reduceMul, Int.reduceLT, Int.reduceLE, Int.reduceAdd, Int.reduceSub, Int.reduceToNat, Int.reduceNeg, reduceIte, Nat.reduceGT, Nat.reduceLT, Nat.reduceLeDiff, code4_0, code4_1, code4_2, code4_3, code4_4, ty4]
    repeat' ((first
      | ((with_reducible first | apply forkD | apply forkB | apply forkN | apply forkNP | apply forkNot) <;> intro _)
      | ((with_reducible_and_instances apply unop_not); (· rfl))
      | ((with_reducible refine ⟨z.grw.lay _ _, ?_⟩); (intro _ h' zz x _); (try simp only [lay_lay, List.append_nil] at x); (try replace q0 := q0.over x); (replace z := zz); (clear zz); rw [lay_nil h'])) <;> simp -implicitDefEqProofs only [syms, symx, Nat.reduceAdd, Nat.reduceMul, Int.reduceLT, Int.reduceLE, Int.reduceAdd, Int.reduceSub, Int.reduceToNat, Int.reduceNeg, reduceIte, Nat.reduceGT, Nat.reduceLT, Nat.reduceLeDiff, code4_0, code4_1, code4_2, code4_3, code4_4, ty4])
    exact hk _ (z.upW _ _ (by omega))
  ((first | ((with_reducible refine KOpsX_call ?_ ?_ ?_); (· exact (by (try simp only [lay_size, List.length_cons, List.length_nil]); have := z.size; omega)); (· first | exact x | simpa only [lay_lay, lay_size, List.append_nil, List.length_cons, List.length_nil, Nat.add_zero] using x)) | skip); replace z := z.overW x (by (try simp only [lay_size, List.length_cons, List.length_nil]); omega); (try replace q0 := q0.over x); rw [lay_nil h'])
  simp -implicitDefEqProofs only [syms, symx, Nat.reduceAdd, Nat.reduceMul, Int.reduceLT, Int.reduceLE, Int.reduceAdd, Int.reduceSub, Int.reduceToNat, Int.reduceNeg, reduceIte, Nat.reduceGT, Nat.reduceLT, Nat.reduceLeDiff, code4_0, code4_1, code4_2, code4_3, code4_4, ty4]
  repeat' ((first
    | ((with_reducible first | apply forkD | apply forkB | apply forkN | apply forkNP | apply forkNot) <;> intro _)
    | ((with_reducible_and_instances apply unop_not); (· rfl))
    | ((with_reducible refine ⟨z.grw.lay _ _, ?_⟩); (intro _ h' zz x _); (try simp only [lay_lay, List.append_nil] at x); (try replace q0 := q0.over x); (replace z := zz); (clear zz); rw [lay_nil h'])) <;> simp -implicitDefEqProofs only [syms, symx, Nat.reduceAdd, Nat.reduceMul, Int.reduceLT, Int.reduceLE, Int.reduceAdd, Int.reduceSub, Int.reduceToNat, Int.reduceNeg, reduceIte, Nat.reduceGT, Nat.reduceLT, Nat.reduceLeDiff, code4_0, code4_1, code4_2, code4_3, code4_4, ty4])
  refine ok_lights more _ 12 _ ((hm.mono z.inc).lay _ _) _ (fun e6 e7 h' x => ?_) (fun h' x => ?_)
  rotate_left
  · ((first | ((with_reducible refine KOpsX_call ?_ ?_ ?_); (· exact (by (try simp only [lay_size, List.length_cons, List.length_nil]); have := z.size; omega)); (· first | exact x | simpa only [lay_lay, lay_size, List.append_nil, List.length_cons, List.length_nil, Nat.add_zero] using x)) | skip); replace z := z.overW x (by (try simp only [lay_size, List.length_cons, List.length_nil]); omega); (try replace q0 := q0.over x); rw [lay_nil h'])
    simp -implicitDefEqProofs only [syms, symx, Nat.reduceAdd, Nat.reduceMul, Int.reduceLT, Int.reduceLE, Int.reduceAdd, Int.reduceSub, Int.reduceToNat, Int.reduceNeg, reduceIte, Nat.reduceGT, Nat.reduceLT, Nat.reduceLeDiff, code4_0, code4_1, code4_2, code4_3, code4_4, ty4]
    repeat' ((first
      | ((with_reducible first | apply forkD | apply forkB | apply forkN | apply forkNP | apply forkNot) <;> intro _)
      | ((with_reducible_and_instances apply unop_not); (· rfl))
      | ((with_reducible refine ⟨z.grw.lay _ _, ?_⟩); (intro _ h' zz x _); (try simp only [lay_lay, List.append_nil] at x); (try replace q0 := q0.over x); (replace z := zz); (clear zz); rw [lay_nil h'])) <;> simp -implicitDefEqProofs only [syms, symx, Nat.reduceAdd, Nat.reduceMul, Int.reduceLT, Int.reduceLE, Int.reduceAdd, Int.reduceSub, Int.reduceToNat, Int.reduceNeg, reduceIte, Nat.reduceGT, Nat.reduceLT, Nat.reduceLeDiff, code4_0, code4_1, code4_2, code4_3, code4_4, ty4])
    exact hk _ (z.upW _ _ (by omega))
  ((first | ((with_reducible refine KOpsX_call ?_ ?_ ?_); (· exact (by (try simp only [lay_size, List.length_cons, List.length_nil]); have := z.size; omega)); (· first | exact x | simpa only [lay_lay, lay_size, List.append_nil, List.length_cons, List.length_nil, Nat.add_zero] using x)) | skip); replace z := z.overW x (by (try simp only [lay_size, List.length_cons, List.length_nil]); omega); (try replace q0 := q0.over x); rw [lay_nil h'])
  simp -implicitDefEqProofs only [syms, symx, Nat.reduceAdd, Nat.reduceMul, Int.reduceLT, Int.reduceLE, Int.reduceAdd, Int.reduceSub, Int.reduceToNat, Int.reduceNeg, reduceIte, Nat.reduceGT, Nat.reduceLT, Nat.reduceLeDiff, code4_0, code4_1, code4_2, code4_3, code4_4, ty4, q0.lay, ↓cut_cl12, fill_clause]
  repeat' ((first
    | ((with_reducible first | apply forkD | apply forkB | apply forkN | apply forkNP | apply forkNot) <;> intro _)
    | ((with_reducible_and_instances apply unop_not); (· rfl))
    | ((with_reducible refine ⟨z.grw.lay _ _, ?_⟩); (intro _ h' zz x _); (try simp only [lay_lay, List.append_nil] at x); (try replace q0 := q0.over x); (replace z := zz); (clear zz); rw [lay_nil h'])) <;> simp -implicitDefEqProofs only [syms, symx, Nat.reduceAdd, Nat.reduceMul, Int.reduceLT, Int.reduceLE, Int.reduceAdd, Int.reduceSub, Int.reduceToNat, Int.reduceNeg, reduceIte, Nat.reduceGT, Nat.reduceLT, Nat.reduceLeDiff, code4_0, code4_1, code4_2, code4_3, code4_4, ty4, q0.lay, ↓cut_cl12, fill_clause])
  refine ok_lightClauses [c] [] _ _ _ (sl_laidC (hb.mono z.inc)) Sl.nil _ (fun e8 e9 e10 h' x => ?_) (fun h' x => ?_)
  rotate_left
  · ((first | ((with_reducible refine KOpsX_call ?_ ?_ ?_); (· exact (by (try simp only [lay_size, List.length_cons, List.length_nil]); have := z.size; omega)); (· first | exact x | simpa only [lay_lay, lay_size, List.append_nil, List.length_cons, List.length_nil, Nat.add_zero] using x)) | skip); replace z := z.overW x (by (try simp only [lay_size, List.length_cons, List.length_nil]); omega); (try replace q0 := q0.over x); rw [lay_nil h'])
    simp -implicitDefEqProofs only [syms, symx, Nat.reduceAdd, Nat.reduceMul, Int.reduceLT, Int.reduceLE, Int.reduceAdd, Int.reduceSub, Int.reduceToNat, Int.reduceNeg, reduceIte, Nat.reduceGT, Nat.reduceLT, Nat.reduceLeDiff, code4_0, code4_1, code4_2, code4_3, code4_4, ty4]
    repeat' ((first
      | ((with_reducible first | apply forkD | apply forkB | apply forkN | apply forkNP | apply forkNot) <;> intro _)
      | ((with_reducible_and_instances apply unop_not); (· rfl))
      | ((with_reducible refine ⟨z.grw.lay _ _, ?_⟩); (intro _ h' zz x _); (try simp only [lay_lay, List.append_nil] at x); (try replace q0 := q0.over x); (replace z := zz); (clear zz); rw [lay_nil h'])) <;> simp -implicitDefEqProofs only [syms, symx, Nat.reduceAdd, Nat.reduceMul, Int.reduceLT, Int.reduceLE, Int.reduceAdd, Int.reduceSub, Int.reduceToNat, Int.reduceNeg, reduceIte, Nat.reduceGT, Nat.reduceLT, Nat.reduceLeDiff, code4_0, code4_1, code4_2, code4_3, code4_4, ty4])
    exact hk _ (z.upW _ _ (by omega))
  ((first | ((with_reducible refine KOpsX_call ?_ ?_ ?_); (· exact (by (try simp only [lay_size, List.length_cons, List.length_nil]); have := z.size; omega)); (· first | exact x | simpa only [lay_lay, lay_size, List.append_nil, List.length_cons, List.length_nil, Nat.add_zero] using x)) | skip); replace z := z.overW x (by (try simp only [lay_size, List.length_cons, List.length_nil]); omega); (try replace q0 := q0.over x); rw [lay_nil h'])
  simp -implicitDefEqProofs only [syms, symx, Nat.reduceAdd, Nat.reduceMul, Int.reduceLT, Int.reduceLE, Int.reduceAdd, Int.reduceSub, Int.reduceToNat, Int.reduceNeg, reduceIte, Nat.reduceGT, Nat.reduceLT, Nat.reduceLeDiff, code4_0, code4_1, code4_2, code4_3, code4_4, ty4]
  repeat' ((first
    | ((with_reducible first | apply forkD | apply forkB | apply forkN | apply forkNP | apply forkNot) <;> intro _)
    | ((with_reducible_and_instances apply unop_not); (· rfl))
    | ((with_reducible refine ⟨z.grw.lay _ _, ?_⟩); (intro _ h' zz x _); (try simp only [lay_lay, List.append_nil] at x); (try replace q0 := q0.over x); (replace z := zz); (clear zz); rw [lay_nil h'])) <;> simp -implicitDefEqProofs only [syms, symx, Nat.reduceAdd, Nat.reduceMul, Int.reduceLT, Int.reduceLE, Int.reduceAdd, Int.reduceSub, Int.reduceToNat, Int.reduceNeg, reduceIte, Nat.reduceGT, Nat.reduceLT, Nat.reduceLeDiff, code4_0, code4_1, code4_2, code4_3, code4_4, ty4])
  have hbs : ∀ r ∈ l, r.body.length ≤ 100 := fun r hr => Nat.le_trans (e5 r hr) (by omega)
  refine ok_founded cl facts l cv fv v _ ((hc.mono z.inc).lay _ _) ((hf.mono z.inc).lay _ _) ((hl.mono z.inc).lay _ _) (by omega) (by omega) (by omega) hbs _ (fun h' x => ?_)
  ((first | ((with_reducible refine KOpsX_call ?_ ?_ ?_); (· exact (by (try simp only [lay_size, List.length_cons, List.length_nil]); have := z.size; omega)); (· first | exact x | simpa only [lay_lay, lay_size, List.append_nil, List.length_cons, List.length_nil, Nat.add_zero] using x)) | skip); replace z := z.overW x (by (try simp only [lay_size, List.length_cons, List.length_nil]); omega); (try replace q0 := q0.over x); rw [lay_nil h'])
  have hw : IntKind.i64.wrap ((l.length : Int) + 1) = (l.length : Int) + 1 := wrap_i64 (by omega) (by omega)
  simp -implicitDefEqProofs only [syms, symx, Nat.reduceAdd, Nat.reduceMul, Int.reduceLT, Int.reduceLE, Int.reduceAdd, Int.reduceSub, Int.reduceToNat, Int.reduceNeg, reduceIte, Nat.reduceGT, Nat.reduceLT, Nat.reduceLeDiff, code4_0, code4_1, code4_2, code4_3, code4_4, ty4]
  repeat' ((first
    | ((with_reducible first | apply forkD | apply forkB | apply forkN | apply forkNP | apply forkNot) <;> intro _)
    | with_reducible_and_instances refine ln_rule hl ds24 ?_
    | ((with_reducible_and_instances apply unop_not); (· rfl))
    | ((with_reducible refine ⟨z.grw.lay _ _, ?_⟩); (intro _ h' zz x _); (try simp only [lay_lay, List.append_nil] at x); (try replace q0 := q0.over x); (replace z := zz); (clear zz); rw [lay_nil h'])) <;> simp -implicitDefEqProofs only [syms, symx, Nat.reduceAdd, Nat.reduceMul, Int.reduceLT, Int.reduceLE, Int.reduceAdd, Int.reduceSub, Int.reduceToNat, Int.reduceNeg, reduceIte, Nat.reduceGT, Nat.reduceLT, Nat.reduceLeDiff, code4_0, code4_1, code4_2, code4_3, code4_4, ty4, hw])
  refine ok_pick cut ((l.length : Int) + 1) _ _ (by omega) ?_
  have hpk := pickD_lt cut ((l.length : Int) + 1) (by omega)
  obtain ⟨k, hkk⟩ := Int.eq_ofNat_of_zero_le hpk.1
  rw [hkk] at hpk ⊢
  have hkl : k ≤ l.length := by omega
  simp -implicitDefEqProofs only [syms, symx, Nat.reduceAdd, Nat.reduceMul, Int.reduceLT, Int.reduceLE, Int.reduceAdd, Int.reduceSub, Int.reduceToNat, Int.reduceNeg, reduceIte, Nat.reduceGT, Nat.reduceLT, Nat.reduceLeDiff, code4_0, code4_1, code4_2, code4_3, code4_4, ty4]
  repeat' ((first
    | ((with_reducible first | apply forkD | apply forkB | apply forkN | apply forkNP | apply forkNot) <;> intro _)
    | with_reducible_and_instances refine to_rule (hl.mono z.inc) (by decide) ds24 sz41 hkl (fun v2 hv2 => ?_)
    | ((with_reducible_and_instances apply unop_not); (· rfl))
    | ((with_reducible refine ⟨z.grw.lay _ _, ?_⟩); (intro _ h' zz x _); (try simp only [lay_lay, List.append_nil] at x); (try replace q0 := q0.over x); (replace z := zz); (clear zz); rw [lay_nil h'])) <;> simp -implicitDefEqProofs only [syms, symx, Nat.reduceAdd, Nat.reduceMul, Int.reduceLT, Int.reduceLE, Int.reduceAdd, Int.reduceSub, Int.reduceToNat, Int.reduceNeg, reduceIte, Nat.reduceGT, Nat.reduceLT, Nat.reduceLeDiff, code4_0, code4_1, code4_2, code4_3, code4_4, ty4])
  have hbs2 : ∀ r ∈ l.take k, r.body.length ≤ 100 := fun r hr => hbs r (List.mem_of_mem_take hr)
  have htl : (l.take k).length = k := by rw [List.length_take]; omega
  refine ok_founded cl facts (l.take k) cv fv v2 _ ((hc.mono z.inc).lay _ _) ((hf.mono z.inc).lay _ _) (hv2.lay _ _) (by omega) (by omega) (by omega) hbs2 _ (fun h' x => ?_)
  ((first | ((with_reducible refine KOpsX_call ?_ ?_ ?_); (· exact (by (try simp only [lay_size, List.length_cons, List.length_nil]); have := z.size; omega)); (· first | exact x | simpa only [lay_lay, lay_size, List.append_nil, List.length_cons, List.length_nil, Nat.add_zero] using x)) | skip); replace z := z.overW x (by (try simp only [lay_size, List.length_cons, List.length_nil]); omega); (try replace q0 := q0.over x); rw [lay_nil h'])
  have hfr := foundD_front (cl := cl) (facts := facts) (l := l) (met := []) (i := 0) k
  have hrg := foundD_range (cl := cl) (facts := facts) l [] 0
  have hmo : foundD cl facts [] l 0 = -1 → foundD (cl ++ [c]) (facts ++ more) [] l 0 = -1 := foundD_more
  rw [Int.ofNat_zero, Int.zero_add] at hfr
  generalize foundD cl facts [] l 0 = n at hfr hrg hmo ⊢
  generalize foundD cl facts [] (l.take k) 0 = m at hfr ⊢
  have hcase : (n = -1 ∧ m = -1) ∨ (n ≠ -1 ∧ 0 ≤ n ∧ m = -1 ∧ (k : Int) ≤ n) ∨ (n ≠ -1 ∧ 0 ≤ n ∧ m = n ∧ ¬ (k : Int) ≤ n) := by
    by_cases h1 : n = -1
    · rw [if_pos (.inl h1)] at hfr
      exact .inl ⟨h1, hfr⟩
    · by_cases h2 : (k : Int) ≤ n
      · rw [if_pos (.inr h2)] at hfr
        exact .inr (.inl ⟨h1, by omega, hfr, h2⟩)
      · rw [if_neg (by rintro (g | g); exact h1 g; exact h2 g)] at hfr
        exact .inr (.inr ⟨h1, by omega, hfr, h2⟩)
  simp -implicitDefEqProofs only [syms, symx, Nat.reduceAdd, Nat.reduceMul, Int.reduceLT, Int.reduceLE, Int.reduceAdd, Int.reduceSub, Int.reduceToNat, Int.reduceNeg, reduceIte, Nat.reduceGT, Nat.reduceLT, Nat.reduceLeDiff, code4_0, code4_1, code4_2, code4_3, code4_4, ty4]
  repeat' ((first
    | ((with_reducible first | apply forkD | apply forkB | apply forkN | apply forkNP | apply forkNot) <;> intro _)
    | with_reducible_and_instances refine to_rule (hl.mono z.inc) (by decide) ds24 sz41 hkl (fun v2 hv2 => ?_)
    | ((with_reducible_and_instances apply unop_not); (· rfl))
    | ((with_reducible refine ⟨z.grw.lay _ _, ?_⟩); (intro _ h' zz x _); (try simp only [lay_lay, List.append_nil] at x); (try replace q0 := q0.over x); (replace z := zz); (clear zz); rw [lay_nil h'])) <;> simp -implicitDefEqProofs only [syms, symx, Nat.reduceAdd, Nat.reduceMul, Int.reduceLT, Int.reduceLE, Int.reduceAdd, Int.reduceSub, Int.reduceToNat, Int.reduceNeg, reduceIte, Nat.reduceGT, Nat.reduceLT, Nat.reduceLeDiff, code4_0, code4_1, code4_2, code4_3, code4_4, ty4])
  all_goals try (exfalso; omega)
  all_goals
    refine ok_ranks l v _ ((hl.mono z.inc).lay _ _) (by omega) hbs _ (fun h' w1 x hw1 => ?_)
    ((first | ((with_reducible refine KOpsX_call ?_ ?_ ?_); (· exact (by (try simp only [lay_size, List.length_cons, List.length_nil]); have := z.size; omega)); (· first | exact x | simpa only [lay_lay, lay_size, List.append_nil, List.length_cons, List.length_nil, Nat.add_zero] using x)) | skip); replace z := z.overW x (by (try simp only [lay_size, List.length_cons, List.length_nil]); omega); (try replace q0 := q0.over x); rw [lay_nil h'])
    have hva : ∀ (h : Heap) (K : Value → Heap → Prop), valE (some w1) h K = K w1 h := fun _ _ => rfl
    simp -implicitDefEqProofs only [syms, symx, Nat.reduceAdd, Nat.reduceMul, Int.reduceLT, Int.reduceLE, Int.reduceAdd, Int.reduceSub, Int.reduceToNat, Int.reduceNeg, reduceIte, Nat.reduceGT, Nat.reduceLT, Nat.reduceLeDiff, code4_0, code4_1, code4_2, code4_3, code4_4, ty4, hva]
    repeat' ((first
      | ((with_reducible first | apply forkD | apply forkB | apply forkN | apply forkNP | apply forkNot) <;> intro _)
      | with_reducible_and_instances refine to_rule (hl.mono z.inc) (by decide) ds24 sz41 hkl (fun v2 hv2 => ?_)
      | ((with_reducible_and_instances apply unop_not); (· rfl))
      | ((with_reducible refine ⟨z.grw.lay _ _, ?_⟩); (intro _ h' zz x _); (try simp only [lay_lay, List.append_nil] at x); (try replace q0 := q0.over x); (replace z := zz); (clear zz); rw [lay_nil h'])) <;> simp -implicitDefEqProofs only [syms, symx, Nat.reduceAdd, Nat.reduceMul, Int.reduceLT, Int.reduceLE, Int.reduceAdd, Int.reduceSub, Int.reduceToNat, Int.reduceNeg, reduceIte, Nat.reduceGT, Nat.reduceLT, Nat.reduceLeDiff, code4_0, code4_1, code4_2, code4_3, code4_4, ty4, hva])
    refine D4_36 (z.upW _ _ (by omega)) ?_
    simp -implicitDefEqProofs only [syms, symx, Nat.reduceAdd, Nat.reduceMul, Int.reduceLT, Int.reduceLE, Int.reduceAdd, Int.reduceSub, Int.reduceToNat, Int.reduceNeg, reduceIte, Nat.reduceGT, Nat.reduceLT, Nat.reduceLeDiff, code4_0, code4_1, code4_2, code4_3, code4_4, ty4, hva]
    repeat' ((first
      | ((with_reducible first | apply forkD | apply forkB | apply forkN | apply forkNP | apply forkNot) <;> intro _)
      | with_reducible_and_instances refine ln_rule hw1 ds32 ?_
      | with_reducible_and_instances refine ln_rule hl ds24 ?_
      | with_reducible_and_instances refine to_rule (hl.mono z.inc) (by decide) ds24 sz41 hkl (fun v3 hv3 => ?_)
      | ((with_reducible_and_instances apply unop_not); (· rfl))
      | ((with_reducible refine ⟨z.grw.lay _ _, ?_⟩); (intro _ h' zz x _); (try simp only [lay_lay, List.append_nil] at x); (try replace q0 := q0.over x); (replace z := zz); (clear zz); rw [lay_nil h'])) <;> simp -implicitDefEqProofs only [syms, symx, Nat.reduceAdd, Nat.reduceMul, Int.reduceLT, Int.reduceLE, Int.reduceAdd, Int.reduceSub, Int.reduceToNat, Int.reduceNeg, reduceIte, Nat.reduceGT, Nat.reduceLT, Nat.reduceLeDiff, code4_0, code4_1, code4_2, code4_3, code4_4, ty4, ranksD_length, bne_self_eq_false, hva])
    refine ok_ranks (l.take k) v3 _ (hv3.lay _ _) (by omega) hbs2 _ (fun h' w2 x hw2 => ?_)
    rw [htl, ranksD_take l k k (Nat.le_refl _)] at hw2
    ((first | ((with_reducible refine KOpsX_call ?_ ?_ ?_); (· exact (by (try simp only [lay_size, List.length_cons, List.length_nil]); have := z.size; omega)); (· first | exact x | simpa only [lay_lay, lay_size, List.append_nil, List.length_cons, List.length_nil, Nat.add_zero] using x)) | skip); replace z := z.overW x (by (try simp only [lay_size, List.length_cons, List.length_nil]); omega); (try replace q0 := q0.over x); (try replace hw1 := hw1.over x); rw [lay_nil h'])
    have hva2 : ∀ (h : Heap) (K : Value → Heap → Prop), valE (some w2) h K = K w2 h := fun _ _ => rfl
    simp -implicitDefEqProofs only [syms, symx, Nat.reduceAdd, Nat.reduceMul, Int.reduceLT, Int.reduceLE, Int.reduceAdd, Int.reduceSub, Int.reduceToNat, Int.reduceNeg, reduceIte, Nat.reduceGT, Nat.reduceLT, Nat.reduceLeDiff, code4_0, code4_1, code4_2, code4_3, code4_4, ty4, hva2, hva]
    repeat' ((first
      | ((with_reducible first | apply forkD | apply forkB | apply forkN | apply forkNP | apply forkNot) <;> intro _)
      | with_reducible_and_instances refine to_rule hw1 (by decide) ds32 sz3 (by rw [ranksD_length]; exact hkl) (fun v4 hv4 => ?_)
      | ((with_reducible_and_instances apply unop_not); (· rfl))
      | ((with_reducible refine ⟨z.grw.lay _ _, ?_⟩); (intro _ h' zz x _); (try simp only [lay_lay, List.append_nil] at x); (try replace q0 := q0.over x); (try replace hw1 := hw1.over x); (replace z := zz); (clear zz); rw [lay_nil h'])) <;> simp -implicitDefEqProofs only [syms, symx, Nat.reduceAdd, Nat.reduceMul, Int.reduceLT, Int.reduceLE, Int.reduceAdd, Int.reduceSub, Int.reduceToNat, Int.reduceNeg, reduceIte, Nat.reduceGT, Nat.reduceLT, Nat.reduceLeDiff, code4_0, code4_1, code4_2, code4_3, code4_4, ty4, hva2, hva])
  all_goals
    rw [ranksD_prefix l l.length k hkl] at hv4
    refine ok_sameInt (ranksD l k) w2 v4 _ (hw2.lay _ _) (hv4.lay _ _) (by rw [ranksD_length]; omega) _ (fun h' x => ?_)
    ((first | ((with_reducible refine KOpsX_call ?_ ?_ ?_); (· exact (by (try simp only [lay_size, List.length_cons, List.length_nil]); have := z.size; omega)); (· first | exact x | simpa only [lay_lay, lay_size, List.append_nil, List.length_cons, List.length_nil, Nat.add_zero] using x)) | skip); replace z := z.overW x (by (try simp only [lay_size, List.length_cons, List.length_nil]); omega); (try replace q0 := q0.over x); rw [lay_nil h'])
    simp -implicitDefEqProofs only [syms, symx, Nat.reduceAdd, Nat.reduceMul, Int.reduceLT, Int.reduceLE, Int.reduceAdd, Int.reduceSub, Int.reduceToNat, Int.reduceNeg, reduceIte, Nat.reduceGT, Nat.reduceLT, Nat.reduceLeDiff, code4_0, code4_1, code4_2, code4_3, code4_4, ty4]
    repeat' ((first
      | ((with_reducible first | apply forkD | apply forkB | apply forkN | apply forkNP | apply forkNot) <;> intro _)
      | with_reducible_and_instances refine to_rule hw1 (by decide) ds32 sz3 (by rw [ranksD_length]; exact hkl) (fun v4 hv4 => ?_)
      | ((with_reducible_and_instances apply unop_not); (· rfl))
      | ((with_reducible refine ⟨z.grw.lay _ _, ?_⟩); (intro _ h' zz x _); (try simp only [lay_lay, List.append_nil] at x); (try replace q0 := q0.over x); (replace z := zz); (clear zz); rw [lay_nil h'])) <;> simp -implicitDefEqProofs only [syms, symx, Nat.reduceAdd, Nat.reduceMul, Int.reduceLT, Int.reduceLE, Int.reduceAdd, Int.reduceSub, Int.reduceToNat, Int.reduceNeg, reduceIte, Nat.reduceGT, Nat.reduceLT, Nat.reduceLeDiff, code4_0, code4_1, code4_2, code4_3, code4_4, ty4])
    refine D4_43 (z.upW _ _ (by omega)) ?_
    simp -implicitDefEqProofs only [syms, symx, Nat.reduceAdd, Nat.reduceMul, Int.reduceLT, Int.reduceLE, Int.reduceAdd, Int.reduceSub, Int.reduceToNat, Int.reduceNeg, reduceIte, Nat.reduceGT, Nat.reduceLT, Nat.reduceLeDiff, code4_0, code4_1, code4_2, code4_3, code4_4, ty4]
    repeat' ((first
      | ((with_reducible first | apply forkD | apply forkB | apply forkN | apply forkNP | apply forkNot) <;> intro _)
      | with_reducible_and_instances refine to_rule hw1 (by decide) ds32 sz3 (by rw [ranksD_length]; exact hkl) (fun v4 hv4 => ?_)
      | ((with_reducible_and_instances apply unop_not); (· rfl))
      | ((with_reducible refine ⟨z.grw.lay _ _, ?_⟩); (intro _ h' zz x _); (try simp only [lay_lay, List.append_nil] at x); (try replace q0 := q0.over x); (replace z := zz); (clear zz); rw [lay_nil h'])) <;> simp -implicitDefEqProofs only [syms, symx, Nat.reduceAdd, Nat.reduceMul, Int.reduceLT, Int.reduceLE, Int.reduceAdd, Int.reduceSub, Int.reduceToNat, Int.reduceNeg, reduceIte, Nat.reduceGT, Nat.reduceLT, Nat.reduceLeDiff, code4_0, code4_1, code4_2, code4_3, code4_4, ty4])
    have hz0 := z.size
    refine ok_ownClauses cl cv _ ((hc.mono z.inc).lay _ _) (by omega) (fun y hy => Nat.le_trans (e3 y hy) (by omega)) _ (fun wc Ac h' x oc => ?_)
    ((first | ((with_reducible refine KOpsX_call ?_ ?_ ?_); (· exact (by (try simp only [lay_size, List.length_cons, List.length_nil]); have := z.size; omega)); (· first | exact x | simpa only [lay_lay, lay_size, List.append_nil, List.length_cons, List.length_nil, Nat.add_zero] using x)) | skip); replace z := z.overW x (by (try simp only [lay_size, List.length_cons, List.length_nil]); omega); (try replace q0 := q0.over x); rw [lay_nil h'])
    obtain ⟨ca, cn, cc, rfl⟩ := oc.slice
    simp -implicitDefEqProofs only [syms, symx, Nat.reduceAdd, Nat.reduceMul, Int.reduceLT, Int.reduceLE, Int.reduceAdd, Int.reduceSub, Int.reduceToNat, Int.reduceNeg, reduceIte, Nat.reduceGT, Nat.reduceLT, Nat.reduceLeDiff, code4_0, code4_1, code4_2, code4_3, code4_4, ty4, q0.lay, ↓cut_cl12, fill_clause]
    repeat' ((first
      | ((with_reducible first | apply forkD | apply forkB | apply forkN | apply forkNP | apply forkNot) <;> intro _)
      | with_reducible_and_instances refine to_rule hw1 (by decide) ds32 sz3 (by rw [ranksD_length]; exact hkl) (fun v4 hv4 => ?_)
      | ((with_reducible_and_instances apply unop_not); (· rfl))
      | ((with_reducible refine ⟨z.grw.lay _ _, ?_⟩); (intro _ h' zz x _); (try simp only [lay_lay, List.append_nil] at x); (try replace q0 := q0.over x); (replace z := zz); (clear zz); rw [lay_nil h'])) <;> simp -implicitDefEqProofs only [syms, symx, Nat.reduceAdd, Nat.reduceMul, Int.reduceLT, Int.reduceLE, Int.reduceAdd, Int.reduceSub, Int.reduceToNat, Int.reduceNeg, reduceIte, Nat.reduceGT, Nat.reduceLT, Nat.reduceLeDiff, code4_0, code4_1, code4_2, code4_3, code4_4, ty4, q0.lay, ↓cut_cl12, fill_clause])
    refine KOpsX_alloc (by have := z.size; omega) (by omega) ?_
    simp -implicitDefEqProofs only [syms, symx, Nat.reduceAdd, Nat.reduceMul, Int.reduceLT, Int.reduceLE, Int.reduceAdd, Int.reduceSub, Int.reduceToNat, Int.reduceNeg, reduceIte, Nat.reduceGT, Nat.reduceLT, Nat.reduceLeDiff, code4_0, code4_1, code4_2, code4_3, code4_4, ty4, w_append, sty22]
  all_goals
    have hfA := oc.fresh
    rw [lay_size] at hfA
    have hlA := oc.lt
    have hHs : (h'.lay [Blk.row (c.head.cells ++ [b]) 47 false] (h'.size + 1)).size = h'.size + 1 := by rw [lay_size]; rfl
    have hzz := z.size
    have hxs := x.size
    have hR : Rep.clause.R (kill Ac (h'.lay [Blk.row (c.head.cells ++ [b]) 47 false] (h'.size + 1))) (c.head.cells ++ [b]) c := ⟨b, rfl, hb.mono (inc_killG (z.inc.trans (Inc.lay _ _ _)) (by omega))⟩
    obtain ⟨hs1, hsr1⟩ := src_row (r := Rep.clause) (c := 1) (by decide) (show (h'.lay [Blk.row (c.head.cells ++ [b]) 47 false] (h'.size + 1)).get (h'.size + 0) = some (.row (c.head.cells ++ [b]) 47 false) by rw [lay_get]; rfl) hR
    obtain ⟨w3, h3, A3, g1, o3, c3, g4, g5⟩ := app_ow (t := 22) ds22 tab_info47 rfl (by decide) (by rw [hHs]; omega) (oc.mono (Inc.lay _ _ _)) hs1 hsr1 (by omega) (by omega)
    rw [g1]
    simp -implicitDefEqProofs only [syms, symx, Nat.reduceAdd, Nat.reduceMul, Int.reduceLT, Int.reduceLE, Int.reduceAdd, Int.reduceSub, Int.reduceToNat, Int.reduceNeg, reduceIte, Nat.reduceGT, Nat.reduceLT, Nat.reduceLeDiff, code4_0, code4_1, code4_2, code4_3, code4_4, ty4]
    refine KOpsX_chg (A := Ac) (by kernel_rfl) (by rw [lay_size]; omega) (by omega) (by simpa only [lay_lay, lay_size, List.append_nil, List.length_cons, List.length_nil, Nat.zero_add] using c3) ?_
    replace z := (z.upW [Blk.row (c.head.cells ++ [b]) 47 false] (h'.size + 1) (by omega)).step c3 (by omega)
    have s3 := o3.sl (by decide)
    obtain ⟨a3, n3, cc3, rfl⟩ := o3.slice
    rw [lay_nil h3]
    simp -implicitDefEqProofs only [syms, symx, Nat.reduceAdd, Nat.reduceMul, Int.reduceLT, Int.reduceLE, Int.reduceAdd, Int.reduceSub, Int.reduceToNat, Int.reduceNeg, reduceIte, Nat.reduceGT, Nat.reduceLT, Nat.reduceLeDiff, code4_0, code4_1, code4_2, code4_3, code4_4, ty4]
    repeat' ((first
      | ((with_reducible first | apply forkD | apply forkB | apply forkN | apply forkNP | apply forkNot) <;> intro _)
      | with_reducible_and_instances refine to_rule hw1 (by decide) ds32 sz3 (by rw [ranksD_length]; exact hkl) (fun v4 hv4 => ?_)
      | ((with_reducible_and_instances apply unop_not); (· rfl))
      | ((with_reducible refine ⟨z.grw.lay _ _, ?_⟩); (intro _ h' zz x _); (try simp only [lay_lay, List.append_nil] at x); (replace z := zz); (clear zz); rw [lay_nil h'])) <;> simp -implicitDefEqProofs only [syms, symx, Nat.reduceAdd, Nat.reduceMul, Int.reduceLT, Int.reduceLE, Int.reduceAdd, Int.reduceSub, Int.reduceToNat, Int.reduceNeg, reduceIte, Nat.reduceGT, Nat.reduceLT, Nat.reduceLeDiff, code4_0, code4_1, code4_2, code4_3, code4_4, ty4])
    have hz3 := z.size
    refine ok_own facts fv _ ((hf.mono z.inc).lay _ _) (by omega) _ (fun w4 A4 h' x o4 hA4 => ?_)
    have i3 := x.inc.of_lay
    have hxs := x.size
    rw [lay_size] at hxs hA4
    simp only [List.length_nil, Nat.add_zero] at hxs hA4
    replace hA4 := Nat.not_lt.1 hA4
    ((first | ((with_reducible refine KOpsX_call ?_ ?_ ?_); (· exact (by (try simp only [lay_size, List.length_cons, List.length_nil]); have := z.size; omega)); (· first | exact x | simpa only [lay_lay, lay_size, List.append_nil, List.length_cons, List.length_nil, Nat.add_zero] using x)) | skip); replace z := z.overW x (by (try simp only [lay_size, List.length_cons, List.length_nil]); omega); rw [lay_nil h'])
    obtain ⟨a4, n4, cc4, rfl⟩ := o4.slice
    simp -implicitDefEqProofs only [syms, symx, Nat.reduceAdd, Nat.reduceMul, Int.reduceLT, Int.reduceLE, Int.reduceAdd, Int.reduceSub, Int.reduceToNat, Int.reduceNeg, reduceIte, Nat.reduceGT, Nat.reduceLT, Nat.reduceLeDiff, code4_0, code4_1, code4_2, code4_3, code4_4, ty4, w_append, sty23]
    repeat' ((first
      | ((with_reducible first | apply forkD | apply forkB | apply forkN | apply forkNP | apply forkNot) <;> intro _)
      | with_reducible_and_instances refine to_rule hw1 (by decide) ds32 sz3 (by rw [ranksD_length]; exact hkl) (fun v4 hv4 => ?_)
      | ((with_reducible_and_instances apply unop_not); (· rfl))
      | ((with_reducible refine ⟨z.grw.lay _ _, ?_⟩); (intro _ h' zz x _); (try simp only [lay_lay, List.append_nil] at x); (replace z := zz); (clear zz); rw [lay_nil h'])) <;> simp -implicitDefEqProofs only [syms, symx, Nat.reduceAdd, Nat.reduceMul, Int.reduceLT, Int.reduceLE, Int.reduceAdd, Int.reduceSub, Int.reduceToNat, Int.reduceNeg, reduceIte, Nat.reduceGT, Nat.reduceLT, Nat.reduceLeDiff, code4_0, code4_1, code4_2, code4_3, code4_4, ty4, w_append, sty23])
  all_goals
    obtain ⟨news, hs5, hsr5⟩ := src_sl (A := A4) (h := h'.lay [] (h'.size + 0)) (r := Rep.atom) (by decide) ((hm.mono z.inc).lay _ _) (fun cs y hr => hr)
    have hzz2 := z.size
    obtain ⟨w5, h5, A5, g6, o5, c5, g7, g8⟩ := app_ow (t := 23) ds23 tab_info39 rfl (by decide) (by rw [lay_size, lay_size]; omega) (o4.mono (Inc.lay _ _ _)) hs5 hsr5 (by omega) (by omega)
    rw [g6]
    simp -implicitDefEqProofs only [syms, symx, Nat.reduceAdd, Nat.reduceMul, Int.reduceLT, Int.reduceLE, Int.reduceAdd, Int.reduceSub, Int.reduceToNat, Int.reduceNeg, reduceIte, Nat.reduceGT, Nat.reduceLT, Nat.reduceLeDiff, code4_0, code4_1, code4_2, code4_3, code4_4, ty4]
    refine KOpsX_chg (A := A4) (by kernel_rfl) (by rw [lay_size]; omega) (by omega) (by simpa only [lay_lay, lay_size, List.append_nil, List.length_cons, List.length_nil, Nat.zero_add, Nat.add_zero] using c5) ?_
    have i5 := inc_chg (i3.trans (Inc.lay _ _ _)) c5 (by omega)
    replace z := (z.upW [] (h'.size + 0) (by omega)).step c5 (by omega)
    have s5 := o5.sl (by decide)
    replace s3 := s3.mono i5
    have hva5 : ∀ (h : Heap) (K : Value → Heap → Prop), valE (some w5) h K = K w5 h := fun _ _ => rfl
    rw [lay_nil h5]
    simp -implicitDefEqProofs only [syms, symx, Nat.reduceAdd, Nat.reduceMul, Int.reduceLT, Int.reduceLE, Int.reduceAdd, Int.reduceSub, Int.reduceToNat, Int.reduceNeg, reduceIte, Nat.reduceGT, Nat.reduceLT, Nat.reduceLeDiff, code4_0, code4_1, code4_2, code4_3, code4_4, ty4, hva5]
    repeat' ((first
      | ((with_reducible first | apply forkD | apply forkB | apply forkN | apply forkNP | apply forkNot) <;> intro _)
      | with_reducible_and_instances refine to_rule hw1 (by decide) ds32 sz3 (by rw [ranksD_length]; exact hkl) (fun v4 hv4 => ?_)
      | ((with_reducible_and_instances apply unop_not); (· rfl))
      | ((with_reducible refine ⟨z.grw.lay _ _, ?_⟩); (intro _ h' zz x _); (try simp only [lay_lay, List.append_nil] at x); (replace z := zz); (clear zz); rw [lay_nil h'])) <;> simp -implicitDefEqProofs only [syms, symx, Nat.reduceAdd, Nat.reduceMul, Int.reduceLT, Int.reduceLE, Int.reduceAdd, Int.reduceSub, Int.reduceToNat, Int.reduceNeg, reduceIte, Nat.reduceGT, Nat.reduceLT, Nat.reduceLeDiff, code4_0, code4_1, code4_2, code4_3, code4_4, ty4, hva5])
    refine ok_founded (cl ++ [c]) (facts ++ more) l _ w5 v _ (s3.lay _ _) (s5.lay _ _) ((hl.mono z.inc).lay _ _) (by rw [List.length_append]; simp only [List.length_cons, List.length_nil]; omega) (by rw [List.length_append]; omega) (by omega) hbs _ (fun h' x => ?_)
    ((first | ((with_reducible refine KOpsX_call ?_ ?_ ?_); (· exact (by (try simp only [lay_size, List.length_cons, List.length_nil]); have := z.size; omega)); (· first | exact x | simpa only [lay_lay, lay_size, List.append_nil, List.length_cons, List.length_nil, Nat.add_zero] using x)) | skip); replace z := z.overW x (by (try simp only [lay_size, List.length_cons, List.length_nil]); omega); rw [lay_nil h'])
    simp -implicitDefEqProofs only [syms, symx, Nat.reduceAdd, Nat.reduceMul, Int.reduceLT, Int.reduceLE, Int.reduceAdd, Int.reduceSub, Int.reduceToNat, Int.reduceNeg, reduceIte, Nat.reduceGT, Nat.reduceLT, Nat.reduceLeDiff, code4_0, code4_1, code4_2, code4_3, code4_4, ty4]
    repeat' ((first
      | ((with_reducible first | apply forkD | apply forkB | apply forkN | apply forkNP | apply forkNot) <;> intro _)
      | with_reducible_and_instances refine to_rule hw1 (by decide) ds32 sz3 (by rw [ranksD_length]; exact hkl) (fun v4 hv4 => ?_)
      | ((with_reducible_and_instances apply unop_not); (· rfl))
      | with_reducible refine D4_36 (z.upW _ _ (by omega)) ?_
      | with_reducible refine D4_43 (z.upW _ _ (by omega)) ?_
      | ((with_reducible refine ⟨z.grw.lay _ _, ?_⟩); (intro _ h' zz x _); (try simp only [lay_lay, List.append_nil] at x); (replace z := zz); (clear zz); rw [lay_nil h'])) <;> simp -implicitDefEqProofs only [syms, symx, Nat.reduceAdd, Nat.reduceMul, Int.reduceLT, Int.reduceLE, Int.reduceAdd, Int.reduceSub, Int.reduceToNat, Int.reduceNeg, reduceIte, Nat.reduceGT, Nat.reduceLT, Nat.reduceLeDiff, code4_0, code4_1, code4_2, code4_3, code4_4, ty4])
  all_goals first
    | exact hk _ (z.upW _ _ (by omega))
    | (exfalso
       have h1 := hmo (by assumption)
       omega)
end Go.Proofs.Ytompindebndddaa
namespace Go.Proofs.Ytompindebndddaa
open Go.ChangeShapes Go.WideShapes Go.ChangeAt Go.RowKit Go.Am
theorem reasonFronts_own : ownKnob Try.prog.godebug = none := by kernel_rfl
theorem reasonFronts_laidOut : laidOutB Try.prog = true := by kernel_rfl
theorem argsShp_eq {P : Program} {h : Heap} {n : Nat} {ts us : List TypeId} {args : List Value} (e : ts = us) (hs : ArgsShp P h n ts args) : ArgsShp P h n us args := by
  subst e
  exact hs
theorem argsShp_cons {P : Program} {h : Heap} {n : Nat} {t : TypeId} {ts : List TypeId} {args : List Value} (hs : ArgsShp P h n (t :: ts) args) : ∃ v vs, args = v :: vs ∧ ArgShp P h n t v ∧ ArgsShp P h n ts vs := by
  cases args with
  | nil => exact absurd hs id
  | cons v vs => exact ⟨v, vs, rfl, hs.1, hs.2⟩
theorem argsShp_nil {P : Program} {h : Heap} {n : Nat} {args : List Value} (hs : ArgsShp P h n [] args) : args = [] := by
  cases args with
  | nil => rfl
  | cons v vs => exact absurd hs id
set_option maxRecDepth 100000 in
theorem reasonFronts_ok (h : Heap) (args : List Value) (_ : h.low = h.size) (hs : ArgsShp Try.prog h 8 Try.f4.params.toList args) : Ok Try.prog tab ov 4 args h fun v h' => v = .bool true ∧ Ext h h' := by
  have hp : Try.f4.params.toList = [22, 23, 24, 3, 23, 47] := by kernel_rfl
  have hs2 : ArgsShp Try.prog h 8 [22, 23, 24, 3, 23, 47] args := argsShp_eq hp hs
  clear hs
  obtain ⟨x0, r0, rfl, h0, hs2⟩ := argsShp_cons hs2
  obtain ⟨x1, r1, rfl, h1, hs2⟩ := argsShp_cons hs2
  obtain ⟨x2, r2, rfl, h2, hs2⟩ := argsShp_cons hs2
  obtain ⟨x3, r3, rfl, h3, hs2⟩ := argsShp_cons hs2
  obtain ⟨x4, r4, rfl, h4, hs2⟩ := argsShp_cons hs2
  obtain ⟨x5, r5, rfl, h5, hs2⟩ := argsShp_cons hs2
  obtain rfl := argsShp_nil hs2
  obtain ⟨cl, hc⟩ := arg_clauses h0
  obtain ⟨facts, hf⟩ := arg_atoms h1
  obtain ⟨l, hl⟩ := arg_reasons h2
  obtain ⟨cut, rfl, _⟩ := arg_int h3
  obtain ⟨more, hm⟩ := arg_atoms h4
  obtain ⟨c, b, rfl, hb⟩ := arg_clause h5
  exact ok_fronts cl facts more l cut c x0 x1 x2 x4 b h hc hf hl hm hb _ (fun h' x => ⟨rfl, x⟩)
set_option maxRecDepth 100000 in
theorem reasonFronts_lifted (os : Os) (started : os.Started) (H : Type) (enc : TypeId × Value → H) :
    ReturnsInHanded {} Try.checked os 4 .any (Rows.reasonFrontsSpec.pre6 enc Try.prog Try.f4 Rows.reasonFrontsRow.domain false) (Rows.reasonFrontsSpec.post enc Try.prog Try.f4 Rows.reasonFrontsRow.apart Rows.reasonFrontsRow.fresh Rows.reasonFrontsRow.handsOn Rows.reasonFrontsRow.again) := by
  refine returnsInHanded_of_change_shaped (C := Try.checked) reasonFronts_own started (by kernel_rfl) Try.func4
    (ChangeSpec.witness6 (enc := enc) (C := Try.checked) false ⟨#[], #[.slice none 0 0, .slice none 0 0, .slice none 0 0, .int .i64 0, .slice none 0 0, .agg ⟨noAtomD.cells ++ [.slice none 0 0]⟩], []⟩ 12 (by kernel_rfl) (by kernel_rfl) (by kernel_rfl) (by kernel_rfl)) ?_
  intro W base args ds gs before hval hW _ _ hsh _
  exact law_contract (n := 8) (boolT := 4) mixed tab_fits rfl ov_ok rfl (of_decide_eq_true (by kernel_rfl)) reasonFronts_laidOut rfl (by kernel_rfl) (by kernel_rfl) Try.underlying4 (by kernel_rfl) (by kernel_rfl)
    (fun ds hd => by
      have hp : Try.f4.params.size = 6 := by kernel_rfl
      rw [hp] at hd
      match ds, hd with
      | [_, _, _, _, _, _], _ => rfl)
    reasonFronts_ok hval hW hsh
theorem reasonFronts_holds : Rows.ReasonFrontsSaid :=
  OpenClaim.holds_of_wide 4 Try.f4 rfl rfl rfl rfl rfl rfl rfl ⟨rfl, rfl, rfl, rfl, rfl⟩ rfl rfl rfl rfl rfl (by kernel_rfl) Try.func4 (by kernel_rfl)
    (of_decide_eq_true (by kernel_rfl)) (by unfold Func.isWrapper; first | (rw [if_pos (by decide +kernel)]; kernel_rfl) | (rw [if_neg (by decide +kernel)]; exact ⟨rfl, rfl⟩))
    (fun os started H enc _ => reasonFronts_lifted os started H enc)
#print axioms reasonFronts_holds
end Go.Proofs.Ytompindebndddaa
