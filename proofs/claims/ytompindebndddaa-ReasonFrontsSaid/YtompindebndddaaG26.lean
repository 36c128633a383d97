/- The code of some functions, node by node, for simp. Written by a program (mkcode.py). No condition. -/
import Derived.Test.YtompindebndddaaG17
import Derived.Test.YtompindebndddaaG14
import Derived.KernelRfl
import Derived.Test.YtompindebndddaaG25
namespace Go.Proofs.Ytompindebndddaa
open Go.Am
set_option linter.unusedVariables false
set_option maxRecDepth 100000
noncomputable def K17_0 : Code := Try.f17.body.getD .skip
noncomputable def K17_1 : Code := lft K17_0
noncomputable def A17_1 : Array Oper := rops K17_1
noncomputable def K17_2 : Code := rgt K17_0
noncomputable def K17_3 : Code := lft K17_2
noncomputable def A17_3 : Array Oper := rops K17_3
noncomputable def K17_4 : Code := rgt K17_2
noncomputable def K17_5 : Code := lft K17_4
noncomputable def A17_5 : Array Oper := rops K17_5
noncomputable def K17_6 : Code := rgt K17_4
noncomputable def K17_7 : Code := lft K17_6
noncomputable def K17_8 : Code := lft K17_7
noncomputable def A17_8 : Array Oper := rops K17_8
noncomputable def K17_9 : Code := rgt K17_7
noncomputable def K17_10 : Code := lft K17_9
noncomputable def K17_11 : Code := lft K17_10
noncomputable def K17_12 : Code := lft K17_11
noncomputable def A17_12 : Array Oper := rops K17_12
noncomputable def K17_13 : Code := rgt K17_11
noncomputable def K17_14 : Code := lft K17_13
noncomputable def K17_15 : Code := lft K17_14
noncomputable def K17_16 : Code := rgt K17_14
noncomputable def K17_17 : Code := rgt K17_13
noncomputable def K17_18 : Code := lft K17_17
noncomputable def K17_19 : Code := lft K17_18
noncomputable def K17_20 : Code := lft K17_19
noncomputable def A17_20 : Array Oper := rops K17_20
noncomputable def K17_21 : Code := rgt K17_19
noncomputable def K17_22 : Code := lft K17_21
noncomputable def K17_23 : Code := lft K17_22
noncomputable def A17_23 : Array Oper := rops K17_23
noncomputable def K17_24 : Code := rgt K17_22
noncomputable def K17_25 : Code := lft K17_24
noncomputable def K17_26 : Code := lft K17_25
noncomputable def A17_26 : Array Oper := rops K17_26
noncomputable def K17_27 : Code := rgt K17_25
noncomputable def K17_28 : Code := rgt K17_24
noncomputable def K17_29 : Code := rgt K17_21
noncomputable def A17_29 : Array Oper := rops K17_29
noncomputable def K17_30 : Code := rgt K17_17
noncomputable def A17_30 : Array Oper := rops K17_30
noncomputable def K17_31 : Code := rgt K17_6
noncomputable def K17_32 : Code := lft K17_31
noncomputable def A17_32 : Array Oper := rops K17_32
noncomputable def K17_33 : Code := rgt K17_31
theorem body17 : Try.f17.body = some K17_0 := by kernel_rfl
theorem code17_0 : type_of% (And.intro (seqK K17_0 K17_1 K17_2 rfl) <| And.intro (regK K17_1 A17_1 rfl) <| And.intro (nilK A17_1 1 rfl) <| And.intro (opS A17_1 0 1 rfl rfl rfl) <| And.intro (seqK K17_2 K17_3 K17_4 rfl) <| And.intro (regK K17_3 A17_3 rfl) <| And.intro (nilK A17_3 3 rfl) <| And.intro (opS A17_3 0 1 rfl rfl rfl) <| And.intro (opS A17_3 1 2 rfl rfl rfl) <| And.intro (opN A17_3 2 3 rfl rfl rfl) <| And.intro (seqK K17_4 K17_5 K17_6 rfl) <| And.intro (regK K17_5 A17_5 rfl) <| And.intro (nilK A17_5 2 rfl) <| And.intro (opS A17_5 0 1 rfl rfl rfl) <| And.intro (opS A17_5 1 2 rfl rfl rfl) <| And.intro (seqK K17_6 K17_7 K17_31 rfl) <| And.intro (seqK K17_7 K17_8 K17_9 rfl) <| And.intro (regK K17_8 A17_8 rfl) <| And.intro (nilK A17_8 3 rfl) <| And.intro (opS A17_8 0 1 rfl rfl rfl) <| And.intro (opS A17_8 1 2 rfl rfl rfl) <| And.intro (opS A17_8 2 3 rfl rfl rfl) <| And.intro (blkK K17_9 K17_10 rfl) <| And.intro (loopK K17_10 K17_11 rfl) <| And.intro (seqK K17_11 K17_12 K17_13 rfl) <| And.intro (regK K17_12 A17_12 rfl) <| And.intro (nilK A17_12 1 rfl) <| And.intro (opS A17_12 0 1 rfl rfl rfl) <| And.intro (seqK K17_13 K17_14 K17_17 rfl) <| And.intro (condK K17_14 K17_15 K17_16 rfl) <| And.intro (skipK K17_15 rfl) <| And.intro (exitK K17_16 rfl) <| And.intro (seqK K17_17 K17_18 K17_30 rfl) <| And.intro (blkK K17_18 K17_19 rfl) <| And.intro (seqK K17_19 K17_20 K17_21 rfl) <| And.intro (regK K17_20 A17_20 rfl) <| And.intro (nilK A17_20 6 rfl) <| And.intro (opS A17_20 0 1 rfl rfl rfl) <| And.intro (opS A17_20 1 2 rfl rfl rfl) <| opS A17_20 2 3 rfl rfl rfl) := And.intro (seqK K17_0 K17_1 K17_2 rfl) <| And.intro (regK K17_1 A17_1 rfl) <| And.intro (nilK A17_1 1 rfl) <| And.intro (opS A17_1 0 1 rfl rfl rfl) <| And.intro (seqK K17_2 K17_3 K17_4 rfl) <| And.intro (regK K17_3 A17_3 rfl) <| And.intro (nilK A17_3 3 rfl) <| And.intro (opS A17_3 0 1 rfl rfl rfl) <| And.intro (opS A17_3 1 2 rfl rfl rfl) <| And.intro (opN A17_3 2 3 rfl rfl rfl) <| And.intro (seqK K17_4 K17_5 K17_6 rfl) <| And.intro (regK K17_5 A17_5 rfl) <| And.intro (nilK A17_5 2 rfl) <| And.intro (opS A17_5 0 1 rfl rfl rfl) <| And.intro (opS A17_5 1 2 rfl rfl rfl) <| And.intro (seqK K17_6 K17_7 K17_31 rfl) <| And.intro (seqK K17_7 K17_8 K17_9 rfl) <| And.intro (regK K17_8 A17_8 rfl) <| And.intro (nilK A17_8 3 rfl) <| And.intro (opS A17_8 0 1 rfl rfl rfl) <| And.intro (opS A17_8 1 2 rfl rfl rfl) <| And.intro (opS A17_8 2 3 rfl rfl rfl) <| And.intro (blkK K17_9 K17_10 rfl) <| And.intro (loopK K17_10 K17_11 rfl) <| And.intro (seqK K17_11 K17_12 K17_13 rfl) <| And.intro (regK K17_12 A17_12 rfl) <| And.intro (nilK A17_12 1 rfl) <| And.intro (opS A17_12 0 1 rfl rfl rfl) <| And.intro (seqK K17_13 K17_14 K17_17 rfl) <| And.intro (condK K17_14 K17_15 K17_16 rfl) <| And.intro (skipK K17_15 rfl) <| And.intro (exitK K17_16 rfl) <| And.intro (seqK K17_17 K17_18 K17_30 rfl) <| And.intro (blkK K17_18 K17_19 rfl) <| And.intro (seqK K17_19 K17_20 K17_21 rfl) <| And.intro (regK K17_20 A17_20 rfl) <| And.intro (nilK A17_20 6 rfl) <| And.intro (opS A17_20 0 1 rfl rfl rfl) <| And.intro (opS A17_20 1 2 rfl rfl rfl) <| opS A17_20 2 3 rfl rfl rfl
theorem code17_1 : type_of% (And.intro (opS A17_20 3 4 rfl rfl rfl) <| And.intro (opS A17_20 4 5 rfl rfl rfl) <| And.intro (opN A17_20 5 6 rfl rfl rfl) <| And.intro (seqK K17_21 K17_22 K17_29 rfl) <| And.intro (seqK K17_22 K17_23 K17_24 rfl) <| And.intro (regK K17_23 A17_23 rfl) <| And.intro (nilK A17_23 18 rfl) <| And.intro (opS A17_23 0 1 rfl rfl rfl) <| And.intro (opS A17_23 1 2 rfl rfl rfl) <| And.intro (opS A17_23 2 3 rfl rfl rfl) <| And.intro (opS A17_23 3 4 rfl rfl rfl) <| And.intro (opS A17_23 4 5 rfl rfl rfl) <| And.intro (opS A17_23 5 6 rfl rfl rfl) <| And.intro (opSG A17_23 6 7 rfl rfl rfl rfl) <| And.intro (opSG A17_23 7 8 rfl rfl rfl rfl) <| And.intro (opSG A17_23 8 9 rfl rfl rfl rfl) <| And.intro (opSG A17_23 9 10 rfl rfl rfl rfl) <| And.intro (opSG A17_23 10 11 rfl rfl rfl rfl) <| And.intro (opS A17_23 11 12 rfl rfl rfl) <| And.intro (opS A17_23 12 13 rfl rfl rfl) <| And.intro (opSG A17_23 13 14 rfl rfl rfl rfl) <| And.intro (opSG A17_23 14 15 rfl rfl rfl rfl) <| And.intro (opSG A17_23 15 16 rfl rfl rfl rfl) <| And.intro (opSG A17_23 16 17 rfl rfl rfl rfl) <| And.intro (opS A17_23 17 18 rfl rfl rfl) <| And.intro (condK K17_24 K17_25 K17_28 rfl) <| And.intro (seqK K17_25 K17_26 K17_27 rfl) <| And.intro (regK K17_26 A17_26 rfl) <| And.intro (nilK A17_26 2 rfl) <| And.intro (opS A17_26 0 1 rfl rfl rfl) <| And.intro (opS A17_26 1 2 rfl rfl rfl) <| And.intro (retK K17_27 rfl) <| And.intro (skipK K17_28 rfl) <| And.intro (regK K17_29 A17_29 rfl) <| And.intro (nilK A17_29 5 rfl) <| And.intro (opS A17_29 0 1 rfl rfl rfl) <| And.intro (opS A17_29 1 2 rfl rfl rfl) <| And.intro (opS A17_29 2 3 rfl rfl rfl) <| And.intro (opS A17_29 3 4 rfl rfl rfl) <| opN A17_29 4 5 rfl rfl rfl) := And.intro (opS A17_20 3 4 rfl rfl rfl) <| And.intro (opS A17_20 4 5 rfl rfl rfl) <| And.intro (opN A17_20 5 6 rfl rfl rfl) <| And.intro (seqK K17_21 K17_22 K17_29 rfl) <| And.intro (seqK K17_22 K17_23 K17_24 rfl) <| And.intro (regK K17_23 A17_23 rfl) <| And.intro (nilK A17_23 18 rfl) <| And.intro (opS A17_23 0 1 rfl rfl rfl) <| And.intro (opS A17_23 1 2 rfl rfl rfl) <| And.intro (opS A17_23 2 3 rfl rfl rfl) <| And.intro (opS A17_23 3 4 rfl rfl rfl) <| And.intro (opS A17_23 4 5 rfl rfl rfl) <| And.intro (opS A17_23 5 6 rfl rfl rfl) <| And.intro (opSG A17_23 6 7 rfl rfl rfl rfl) <| And.intro (opSG A17_23 7 8 rfl rfl rfl rfl) <| And.intro (opSG A17_23 8 9 rfl rfl rfl rfl) <| And.intro (opSG A17_23 9 10 rfl rfl rfl rfl) <| And.intro (opSG A17_23 10 11 rfl rfl rfl rfl) <| And.intro (opS A17_23 11 12 rfl rfl rfl) <| And.intro (opS A17_23 12 13 rfl rfl rfl) <| And.intro (opSG A17_23 13 14 rfl rfl rfl rfl) <| And.intro (opSG A17_23 14 15 rfl rfl rfl rfl) <| And.intro (opSG A17_23 15 16 rfl rfl rfl rfl) <| And.intro (opSG A17_23 16 17 rfl rfl rfl rfl) <| And.intro (opS A17_23 17 18 rfl rfl rfl) <| And.intro (condK K17_24 K17_25 K17_28 rfl) <| And.intro (seqK K17_25 K17_26 K17_27 rfl) <| And.intro (regK K17_26 A17_26 rfl) <| And.intro (nilK A17_26 2 rfl) <| And.intro (opS A17_26 0 1 rfl rfl rfl) <| And.intro (opS A17_26 1 2 rfl rfl rfl) <| And.intro (retK K17_27 rfl) <| And.intro (skipK K17_28 rfl) <| And.intro (regK K17_29 A17_29 rfl) <| And.intro (nilK A17_29 5 rfl) <| And.intro (opS A17_29 0 1 rfl rfl rfl) <| And.intro (opS A17_29 1 2 rfl rfl rfl) <| And.intro (opS A17_29 2 3 rfl rfl rfl) <| And.intro (opS A17_29 3 4 rfl rfl rfl) <| opN A17_29 4 5 rfl rfl rfl
theorem code17_2 : type_of% (And.intro (regK K17_30 A17_30 rfl) <| And.intro (nilK A17_30 2 rfl) <| And.intro (opS A17_30 0 1 rfl rfl rfl) <| And.intro (opS A17_30 1 2 rfl rfl rfl) <| And.intro (seqK K17_31 K17_32 K17_33 rfl) <| And.intro (regK K17_32 A17_32 rfl) <| And.intro (nilK A17_32 1 rfl) <| And.intro (opS A17_32 0 1 rfl rfl rfl) <| retK K17_33 rfl) := And.intro (regK K17_30 A17_30 rfl) <| And.intro (nilK A17_30 2 rfl) <| And.intro (opS A17_30 0 1 rfl rfl rfl) <| And.intro (opS A17_30 1 2 rfl rfl rfl) <| And.intro (seqK K17_31 K17_32 K17_33 rfl) <| And.intro (regK K17_32 A17_32 rfl) <| And.intro (nilK A17_32 1 rfl) <| And.intro (opS A17_32 0 1 rfl rfl rfl) <| retK K17_33 rfl
theorem ty17 : type_of% (And.intro @al103 <| And.intro @al41 <| And.intro @fa41_0 <| And.intro @fa41_2 <| And.intro @ix24 <| And.intro @ld103 <| And.intro @ld23 <| And.intro @ld39 <| And.intro @ld41 <| And.intro @ln24 <| @fi17) := And.intro @al103 <| And.intro @al41 <| And.intro @fa41_0 <| And.intro @fa41_2 <| And.intro @ix24 <| And.intro @ld103 <| And.intro @ld23 <| And.intro @ld39 <| And.intro @ld41 <| And.intro @ln24 <| @fi17

noncomputable def K19_0 : Code := Try.f19.body.getD .skip
noncomputable def K19_1 : Code := lft K19_0
noncomputable def A19_1 : Array Oper := rops K19_1
noncomputable def K19_2 : Code := rgt K19_0
noncomputable def K19_3 : Code := lft K19_2
noncomputable def A19_3 : Array Oper := rops K19_3
noncomputable def K19_4 : Code := rgt K19_2
noncomputable def K19_5 : Code := lft K19_4
noncomputable def K19_6 : Code := lft K19_5
noncomputable def A19_6 : Array Oper := rops K19_6
noncomputable def K19_7 : Code := rgt K19_5
noncomputable def K19_8 : Code := lft K19_7
noncomputable def K19_9 : Code := lft K19_8
noncomputable def K19_10 : Code := lft K19_9
noncomputable def A19_10 : Array Oper := rops K19_10
noncomputable def K19_11 : Code := rgt K19_9
noncomputable def K19_12 : Code := lft K19_11
noncomputable def K19_13 : Code := lft K19_12
noncomputable def K19_14 : Code := rgt K19_12
noncomputable def K19_15 : Code := rgt K19_11
noncomputable def K19_16 : Code := lft K19_15
noncomputable def K19_17 : Code := lft K19_16
noncomputable def K19_18 : Code := lft K19_17
noncomputable def A19_18 : Array Oper := rops K19_18
noncomputable def K19_19 : Code := rgt K19_17
noncomputable def K19_20 : Code := lft K19_19
noncomputable def K19_21 : Code := lft K19_20
noncomputable def A19_21 : Array Oper := rops K19_21
noncomputable def K19_22 : Code := rgt K19_20
noncomputable def K19_23 : Code := lft K19_22
noncomputable def K19_24 : Code := lft K19_23
noncomputable def K19_25 : Code := lft K19_24
noncomputable def A19_25 : Array Oper := rops K19_25
noncomputable def K19_26 : Code := rgt K19_24
noncomputable def K19_27 : Code := lft K19_26
noncomputable def K19_28 : Code := lft K19_27
noncomputable def K19_29 : Code := rgt K19_27
noncomputable def K19_30 : Code := rgt K19_26
noncomputable def K19_31 : Code := lft K19_30
noncomputable def K19_32 : Code := lft K19_31
noncomputable def K19_33 : Code := lft K19_32
noncomputable def A19_33 : Array Oper := rops K19_33
noncomputable def K19_34 : Code := rgt K19_32
noncomputable def K19_35 : Code := lft K19_34
noncomputable def A19_35 : Array Oper := rops K19_35
noncomputable def K19_36 : Code := rgt K19_34
noncomputable def K19_37 : Code := lft K19_36
noncomputable def A19_37 : Array Oper := rops K19_37
noncomputable def K19_38 : Code := rgt K19_36
noncomputable def K19_39 : Code := lft K19_38
noncomputable def A19_39 : Array Oper := rops K19_39
noncomputable def K19_40 : Code := rgt K19_38
noncomputable def K19_41 : Code := rgt K19_30
noncomputable def A19_41 : Array Oper := rops K19_41
noncomputable def K19_42 : Code := rgt K19_19
noncomputable def A19_42 : Array Oper := rops K19_42
noncomputable def K19_43 : Code := rgt K19_15
noncomputable def A19_43 : Array Oper := rops K19_43
noncomputable def K19_44 : Code := rgt K19_4
noncomputable def K19_45 : Code := lft K19_44
noncomputable def A19_45 : Array Oper := rops K19_45
noncomputable def K19_46 : Code := rgt K19_44
theorem body19 : Try.f19.body = some K19_0 := by kernel_rfl
theorem D19_39 : DrawK K19_39 A19_39 := drawK rfl (by kernel_rfl)
theorem code19_0 : type_of% (And.intro (seqK K19_0 K19_1 K19_2 rfl) <| And.intro (regK K19_1 A19_1 rfl) <| And.intro (nilK A19_1 1 rfl) <| And.intro (opS A19_1 0 1 rfl rfl rfl) <| And.intro (seqK K19_2 K19_3 K19_4 rfl) <| And.intro (regK K19_3 A19_3 rfl) <| And.intro (nilK A19_3 4 rfl) <| And.intro (opS A19_3 0 1 rfl rfl rfl) <| And.intro (opS A19_3 1 2 rfl rfl rfl) <| And.intro (opS A19_3 2 3 rfl rfl rfl) <| And.intro (opS A19_3 3 4 rfl rfl rfl) <| And.intro (seqK K19_4 K19_5 K19_44 rfl) <| And.intro (seqK K19_5 K19_6 K19_7 rfl) <| And.intro (regK K19_6 A19_6 rfl) <| And.intro (nilK A19_6 3 rfl) <| And.intro (opS A19_6 0 1 rfl rfl rfl) <| And.intro (opS A19_6 1 2 rfl rfl rfl) <| And.intro (opS A19_6 2 3 rfl rfl rfl) <| And.intro (blkK K19_7 K19_8 rfl) <| And.intro (loopK K19_8 K19_9 rfl) <| And.intro (seqK K19_9 K19_10 K19_11 rfl) <| And.intro (regK K19_10 A19_10 rfl) <| And.intro (nilK A19_10 1 rfl) <| And.intro (opS A19_10 0 1 rfl rfl rfl) <| And.intro (seqK K19_11 K19_12 K19_15 rfl) <| And.intro (condK K19_12 K19_13 K19_14 rfl) <| And.intro (skipK K19_13 rfl) <| And.intro (exitK K19_14 rfl) <| And.intro (seqK K19_15 K19_16 K19_43 rfl) <| And.intro (blkK K19_16 K19_17 rfl) <| And.intro (seqK K19_17 K19_18 K19_19 rfl) <| And.intro (regK K19_18 A19_18 rfl) <| And.intro (nilK A19_18 6 rfl) <| And.intro (opS A19_18 0 1 rfl rfl rfl) <| And.intro (opS A19_18 1 2 rfl rfl rfl) <| And.intro (opS A19_18 2 3 rfl rfl rfl) <| And.intro (opS A19_18 3 4 rfl rfl rfl) <| And.intro (opS A19_18 4 5 rfl rfl rfl) <| And.intro (opN A19_18 5 6 rfl rfl rfl) <| seqK K19_19 K19_20 K19_42 rfl) := And.intro (seqK K19_0 K19_1 K19_2 rfl) <| And.intro (regK K19_1 A19_1 rfl) <| And.intro (nilK A19_1 1 rfl) <| And.intro (opS A19_1 0 1 rfl rfl rfl) <| And.intro (seqK K19_2 K19_3 K19_4 rfl) <| And.intro (regK K19_3 A19_3 rfl) <| And.intro (nilK A19_3 4 rfl) <| And.intro (opS A19_3 0 1 rfl rfl rfl) <| And.intro (opS A19_3 1 2 rfl rfl rfl) <| And.intro (opS A19_3 2 3 rfl rfl rfl) <| And.intro (opS A19_3 3 4 rfl rfl rfl) <| And.intro (seqK K19_4 K19_5 K19_44 rfl) <| And.intro (seqK K19_5 K19_6 K19_7 rfl) <| And.intro (regK K19_6 A19_6 rfl) <| And.intro (nilK A19_6 3 rfl) <| And.intro (opS A19_6 0 1 rfl rfl rfl) <| And.intro (opS A19_6 1 2 rfl rfl rfl) <| And.intro (opS A19_6 2 3 rfl rfl rfl) <| And.intro (blkK K19_7 K19_8 rfl) <| And.intro (loopK K19_8 K19_9 rfl) <| And.intro (seqK K19_9 K19_10 K19_11 rfl) <| And.intro (regK K19_10 A19_10 rfl) <| And.intro (nilK A19_10 1 rfl) <| And.intro (opS A19_10 0 1 rfl rfl rfl) <| And.intro (seqK K19_11 K19_12 K19_15 rfl) <| And.intro (condK K19_12 K19_13 K19_14 rfl) <| And.intro (skipK K19_13 rfl) <| And.intro (exitK K19_14 rfl) <| And.intro (seqK K19_15 K19_16 K19_43 rfl) <| And.intro (blkK K19_16 K19_17 rfl) <| And.intro (seqK K19_17 K19_18 K19_19 rfl) <| And.intro (regK K19_18 A19_18 rfl) <| And.intro (nilK A19_18 6 rfl) <| And.intro (opS A19_18 0 1 rfl rfl rfl) <| And.intro (opS A19_18 1 2 rfl rfl rfl) <| And.intro (opS A19_18 2 3 rfl rfl rfl) <| And.intro (opS A19_18 3 4 rfl rfl rfl) <| And.intro (opS A19_18 4 5 rfl rfl rfl) <| And.intro (opN A19_18 5 6 rfl rfl rfl) <| seqK K19_19 K19_20 K19_42 rfl
theorem code19_1 : type_of% (And.intro (seqK K19_20 K19_21 K19_22 rfl) <| And.intro (regK K19_21 A19_21 rfl) <| And.intro (nilK A19_21 4 rfl) <| And.intro (opS A19_21 0 1 rfl rfl rfl) <| And.intro (opS A19_21 1 2 rfl rfl rfl) <| And.intro (opS A19_21 2 3 rfl rfl rfl) <| And.intro (opS A19_21 3 4 rfl rfl rfl) <| And.intro (blkK K19_22 K19_23 rfl) <| And.intro (loopK K19_23 K19_24 rfl) <| And.intro (seqK K19_24 K19_25 K19_26 rfl) <| And.intro (regK K19_25 A19_25 rfl) <| And.intro (nilK A19_25 1 rfl) <| And.intro (opS A19_25 0 1 rfl rfl rfl) <| And.intro (seqK K19_26 K19_27 K19_30 rfl) <| And.intro (condK K19_27 K19_28 K19_29 rfl) <| And.intro (skipK K19_28 rfl) <| And.intro (exitK K19_29 rfl) <| And.intro (seqK K19_30 K19_31 K19_41 rfl) <| And.intro (blkK K19_31 K19_32 rfl) <| And.intro (seqK K19_32 K19_33 K19_34 rfl) <| And.intro (regK K19_33 A19_33 rfl) <| And.intro (nilK A19_33 4 rfl) <| And.intro (opS A19_33 0 1 rfl rfl rfl) <| And.intro (opS A19_33 1 2 rfl rfl rfl) <| And.intro (opS A19_33 2 3 rfl rfl rfl) <| And.intro (opN A19_33 3 4 rfl rfl rfl) <| And.intro (seqK K19_34 K19_35 K19_36 rfl) <| And.intro (regK K19_35 A19_35 rfl) <| And.intro (nilK A19_35 8 rfl) <| And.intro (opS A19_35 0 1 rfl rfl rfl) <| And.intro (opS A19_35 1 2 rfl rfl rfl) <| And.intro (opS A19_35 2 3 rfl rfl rfl) <| And.intro (opS A19_35 3 4 rfl rfl rfl) <| And.intro (opS A19_35 4 5 rfl rfl rfl) <| And.intro (opS A19_35 5 6 rfl rfl rfl) <| And.intro (opS A19_35 6 7 rfl rfl rfl) <| And.intro (opS A19_35 7 8 rfl rfl rfl) <| And.intro (seqK K19_36 K19_37 K19_38 rfl) <| And.intro (regK K19_37 A19_37 rfl) <| nilK A19_37 6 rfl) := And.intro (seqK K19_20 K19_21 K19_22 rfl) <| And.intro (regK K19_21 A19_21 rfl) <| And.intro (nilK A19_21 4 rfl) <| And.intro (opS A19_21 0 1 rfl rfl rfl) <| And.intro (opS A19_21 1 2 rfl rfl rfl) <| And.intro (opS A19_21 2 3 rfl rfl rfl) <| And.intro (opS A19_21 3 4 rfl rfl rfl) <| And.intro (blkK K19_22 K19_23 rfl) <| And.intro (loopK K19_23 K19_24 rfl) <| And.intro (seqK K19_24 K19_25 K19_26 rfl) <| And.intro (regK K19_25 A19_25 rfl) <| And.intro (nilK A19_25 1 rfl) <| And.intro (opS A19_25 0 1 rfl rfl rfl) <| And.intro (seqK K19_26 K19_27 K19_30 rfl) <| And.intro (condK K19_27 K19_28 K19_29 rfl) <| And.intro (skipK K19_28 rfl) <| And.intro (exitK K19_29 rfl) <| And.intro (seqK K19_30 K19_31 K19_41 rfl) <| And.intro (blkK K19_31 K19_32 rfl) <| And.intro (seqK K19_32 K19_33 K19_34 rfl) <| And.intro (regK K19_33 A19_33 rfl) <| And.intro (nilK A19_33 4 rfl) <| And.intro (opS A19_33 0 1 rfl rfl rfl) <| And.intro (opS A19_33 1 2 rfl rfl rfl) <| And.intro (opS A19_33 2 3 rfl rfl rfl) <| And.intro (opN A19_33 3 4 rfl rfl rfl) <| And.intro (seqK K19_34 K19_35 K19_36 rfl) <| And.intro (regK K19_35 A19_35 rfl) <| And.intro (nilK A19_35 8 rfl) <| And.intro (opS A19_35 0 1 rfl rfl rfl) <| And.intro (opS A19_35 1 2 rfl rfl rfl) <| And.intro (opS A19_35 2 3 rfl rfl rfl) <| And.intro (opS A19_35 3 4 rfl rfl rfl) <| And.intro (opS A19_35 4 5 rfl rfl rfl) <| And.intro (opS A19_35 5 6 rfl rfl rfl) <| And.intro (opS A19_35 6 7 rfl rfl rfl) <| And.intro (opS A19_35 7 8 rfl rfl rfl) <| And.intro (seqK K19_36 K19_37 K19_38 rfl) <| And.intro (regK K19_37 A19_37 rfl) <| nilK A19_37 6 rfl
theorem code19_2 : type_of% (And.intro (opS A19_37 0 1 rfl rfl rfl) <| And.intro (opS A19_37 1 2 rfl rfl rfl) <| And.intro (opSG A19_37 2 3 rfl rfl rfl rfl) <| And.intro (opSG A19_37 3 4 rfl rfl rfl rfl) <| And.intro (opSG A19_37 4 5 rfl rfl rfl rfl) <| And.intro (opS A19_37 5 6 rfl rfl rfl) <| And.intro (condK K19_38 K19_39 K19_40 rfl) <| And.intro (nilX A19_39 13 rfl) <| And.intro (opSX A19_39 0 1 true rfl rfl rfl rfl) <| And.intro (opSX A19_39 1 2 true rfl rfl rfl rfl) <| And.intro (opSX A19_39 2 3 true rfl rfl rfl rfl) <| And.intro (opSX A19_39 3 4 true rfl rfl rfl rfl) <| And.intro (opSX A19_39 4 5 true rfl rfl rfl rfl) <| And.intro (opSX A19_39 5 6 true rfl rfl rfl rfl) <| And.intro (opSX A19_39 6 7 true rfl rfl rfl rfl) <| And.intro (opSX A19_39 7 8 true rfl rfl rfl rfl) <| And.intro (opSX A19_39 8 9 true rfl rfl rfl rfl) <| And.intro (opSX A19_39 9 10 true rfl rfl rfl rfl) <| And.intro (opSX A19_39 10 11 true rfl rfl rfl rfl) <| And.intro (opSX A19_39 11 12 true rfl rfl rfl rfl) <| And.intro (opNX A19_39 12 13 false rfl rfl rfl rfl) <| And.intro (skipK K19_40 rfl) <| And.intro (regK K19_41 A19_41 rfl) <| And.intro (nilK A19_41 2 rfl) <| And.intro (opS A19_41 0 1 rfl rfl rfl) <| And.intro (opS A19_41 1 2 rfl rfl rfl) <| And.intro (regK K19_42 A19_42 rfl) <| And.intro (nilK A19_42 7 rfl) <| And.intro (opS A19_42 0 1 rfl rfl rfl) <| And.intro (opS A19_42 1 2 rfl rfl rfl) <| And.intro (opS A19_42 2 3 rfl rfl rfl) <| And.intro (opS A19_42 3 4 rfl rfl rfl) <| And.intro (opS A19_42 4 5 rfl rfl rfl) <| And.intro (opS A19_42 5 6 rfl rfl rfl) <| And.intro (opN A19_42 6 7 rfl rfl rfl) <| And.intro (regK K19_43 A19_43 rfl) <| And.intro (nilK A19_43 2 rfl) <| And.intro (opS A19_43 0 1 rfl rfl rfl) <| And.intro (opS A19_43 1 2 rfl rfl rfl) <| seqK K19_44 K19_45 K19_46 rfl) := And.intro (opS A19_37 0 1 rfl rfl rfl) <| And.intro (opS A19_37 1 2 rfl rfl rfl) <| And.intro (opSG A19_37 2 3 rfl rfl rfl rfl) <| And.intro (opSG A19_37 3 4 rfl rfl rfl rfl) <| And.intro (opSG A19_37 4 5 rfl rfl rfl rfl) <| And.intro (opS A19_37 5 6 rfl rfl rfl) <| And.intro (condK K19_38 K19_39 K19_40 rfl) <| And.intro (nilX A19_39 13 rfl) <| And.intro (opSX A19_39 0 1 true rfl rfl rfl rfl) <| And.intro (opSX A19_39 1 2 true rfl rfl rfl rfl) <| And.intro (opSX A19_39 2 3 true rfl rfl rfl rfl) <| And.intro (opSX A19_39 3 4 true rfl rfl rfl rfl) <| And.intro (opSX A19_39 4 5 true rfl rfl rfl rfl) <| And.intro (opSX A19_39 5 6 true rfl rfl rfl rfl) <| And.intro (opSX A19_39 6 7 true rfl rfl rfl rfl) <| And.intro (opSX A19_39 7 8 true rfl rfl rfl rfl) <| And.intro (opSX A19_39 8 9 true rfl rfl rfl rfl) <| And.intro (opSX A19_39 9 10 true rfl rfl rfl rfl) <| And.intro (opSX A19_39 10 11 true rfl rfl rfl rfl) <| And.intro (opSX A19_39 11 12 true rfl rfl rfl rfl) <| And.intro (opNX A19_39 12 13 false rfl rfl rfl rfl) <| And.intro (skipK K19_40 rfl) <| And.intro (regK K19_41 A19_41 rfl) <| And.intro (nilK A19_41 2 rfl) <| And.intro (opS A19_41 0 1 rfl rfl rfl) <| And.intro (opS A19_41 1 2 rfl rfl rfl) <| And.intro (regK K19_42 A19_42 rfl) <| And.intro (nilK A19_42 7 rfl) <| And.intro (opS A19_42 0 1 rfl rfl rfl) <| And.intro (opS A19_42 1 2 rfl rfl rfl) <| And.intro (opS A19_42 2 3 rfl rfl rfl) <| And.intro (opS A19_42 3 4 rfl rfl rfl) <| And.intro (opS A19_42 4 5 rfl rfl rfl) <| And.intro (opS A19_42 5 6 rfl rfl rfl) <| And.intro (opN A19_42 6 7 rfl rfl rfl) <| And.intro (regK K19_43 A19_43 rfl) <| And.intro (nilK A19_43 2 rfl) <| And.intro (opS A19_43 0 1 rfl rfl rfl) <| And.intro (opS A19_43 1 2 rfl rfl rfl) <| seqK K19_44 K19_45 K19_46 rfl
theorem code19_3 : type_of% (And.intro (regK K19_45 A19_45 rfl) <| And.intro (nilK A19_45 2 rfl) <| And.intro (opS A19_45 0 1 rfl rfl rfl) <| And.intro (opS A19_45 1 2 rfl rfl rfl) <| retK K19_46 rfl) := And.intro (regK K19_45 A19_45 rfl) <| And.intro (nilK A19_45 2 rfl) <| And.intro (opS A19_45 0 1 rfl rfl rfl) <| And.intro (opS A19_45 1 2 rfl rfl rfl) <| retK K19_46 rfl
theorem ty19 : type_of% (And.intro @al39 <| And.intro @al41 <| And.intro @fa41_2 <| And.intro @ix23 <| And.intro @ix24 <| And.intro @ix32 <| And.intro @ld23 <| And.intro @ld3 <| And.intro @ld39 <| And.intro @ld41 <| And.intro @ln23 <| And.intro @ln24 <| @fi19) := And.intro @al39 <| And.intro @al41 <| And.intro @fa41_2 <| And.intro @ix23 <| And.intro @ix24 <| And.intro @ix32 <| And.intro @ld23 <| And.intro @ld3 <| And.intro @ld39 <| And.intro @ld41 <| And.intro @ln23 <| And.intro @ln24 <| @fi19

noncomputable def K25_0 : Code := Try.f25.body.getD .skip
noncomputable def K25_1 : Code := lft K25_0
noncomputable def A25_1 : Array Oper := rops K25_1
noncomputable def K25_2 : Code := rgt K25_0
noncomputable def K25_3 : Code := lft K25_2
noncomputable def K25_4 : Code := lft K25_3
noncomputable def A25_4 : Array Oper := rops K25_4
noncomputable def K25_5 : Code := rgt K25_3
noncomputable def K25_6 : Code := lft K25_5
noncomputable def K25_7 : Code := lft K25_6
noncomputable def A25_7 : Array Oper := rops K25_7
noncomputable def K25_8 : Code := rgt K25_6
noncomputable def K25_9 : Code := rgt K25_5
noncomputable def K25_10 : Code := rgt K25_2
noncomputable def K25_11 : Code := lft K25_10
noncomputable def K25_12 : Code := lft K25_11
noncomputable def A25_12 : Array Oper := rops K25_12
noncomputable def K25_13 : Code := rgt K25_11
noncomputable def K25_14 : Code := lft K25_13
noncomputable def K25_15 : Code := lft K25_14
noncomputable def K25_16 : Code := lft K25_15
noncomputable def K25_17 : Code := lft K25_16
noncomputable def A25_17 : Array Oper := rops K25_17
noncomputable def K25_18 : Code := rgt K25_16
noncomputable def K25_19 : Code := lft K25_18
noncomputable def K25_20 : Code := rgt K25_18
noncomputable def K25_21 : Code := rgt K25_15
noncomputable def K25_22 : Code := lft K25_21
noncomputable def K25_23 : Code := lft K25_22
noncomputable def K25_24 : Code := lft K25_23
noncomputable def A25_24 : Array Oper := rops K25_24
noncomputable def K25_25 : Code := rgt K25_23
noncomputable def K25_26 : Code := lft K25_25
noncomputable def K25_27 : Code := lft K25_26
noncomputable def A25_27 : Array Oper := rops K25_27
noncomputable def K25_28 : Code := rgt K25_26
noncomputable def K25_29 : Code := rgt K25_25
noncomputable def K25_30 : Code := rgt K25_21
noncomputable def A25_30 : Array Oper := rops K25_30
noncomputable def K25_31 : Code := rgt K25_10
noncomputable def K25_32 : Code := lft K25_31
noncomputable def A25_32 : Array Oper := rops K25_32
noncomputable def K25_33 : Code := rgt K25_31
theorem body25 : Try.f25.body = some K25_0 := by kernel_rfl
theorem D25_24 : DrawK K25_24 A25_24 := drawK rfl (by kernel_rfl)
theorem code25_0 : type_of% (And.intro (seqK K25_0 K25_1 K25_2 rfl) <| And.intro (regK K25_1 A25_1 rfl) <| And.intro (nilK A25_1 1 rfl) <| And.intro (opS A25_1 0 1 rfl rfl rfl) <| And.intro (seqK K25_2 K25_3 K25_10 rfl) <| And.intro (seqK K25_3 K25_4 K25_5 rfl) <| And.intro (regK K25_4 A25_4 rfl) <| And.intro (nilK A25_4 5 rfl) <| And.intro (opS A25_4 0 1 rfl rfl rfl) <| And.intro (opS A25_4 1 2 rfl rfl rfl) <| And.intro (opS A25_4 2 3 rfl rfl rfl) <| And.intro (opS A25_4 3 4 rfl rfl rfl) <| And.intro (opS A25_4 4 5 rfl rfl rfl) <| And.intro (condK K25_5 K25_6 K25_9 rfl) <| And.intro (seqK K25_6 K25_7 K25_8 rfl) <| And.intro (regK K25_7 A25_7 rfl) <| And.intro (nilK A25_7 1 rfl) <| And.intro (opS A25_7 0 1 rfl rfl rfl) <| And.intro (retK K25_8 rfl) <| And.intro (skipK K25_9 rfl) <| And.intro (seqK K25_10 K25_11 K25_31 rfl) <| And.intro (seqK K25_11 K25_12 K25_13 rfl) <| And.intro (regK K25_12 A25_12 rfl) <| And.intro (nilK A25_12 1 rfl) <| And.intro (opS A25_12 0 1 rfl rfl rfl) <| And.intro (blkK K25_13 K25_14 rfl) <| And.intro (loopK K25_14 K25_15 rfl) <| And.intro (seqK K25_15 K25_16 K25_21 rfl) <| And.intro (seqK K25_16 K25_17 K25_18 rfl) <| And.intro (regK K25_17 A25_17 rfl) <| And.intro (nilK A25_17 4 rfl) <| And.intro (opS A25_17 0 1 rfl rfl rfl) <| And.intro (opS A25_17 1 2 rfl rfl rfl) <| And.intro (opS A25_17 2 3 rfl rfl rfl) <| And.intro (opS A25_17 3 4 rfl rfl rfl) <| And.intro (condK K25_18 K25_19 K25_20 rfl) <| And.intro (skipK K25_19 rfl) <| And.intro (exitK K25_20 rfl) <| And.intro (seqK K25_21 K25_22 K25_30 rfl) <| blkK K25_22 K25_23 rfl) := And.intro (seqK K25_0 K25_1 K25_2 rfl) <| And.intro (regK K25_1 A25_1 rfl) <| And.intro (nilK A25_1 1 rfl) <| And.intro (opS A25_1 0 1 rfl rfl rfl) <| And.intro (seqK K25_2 K25_3 K25_10 rfl) <| And.intro (seqK K25_3 K25_4 K25_5 rfl) <| And.intro (regK K25_4 A25_4 rfl) <| And.intro (nilK A25_4 5 rfl) <| And.intro (opS A25_4 0 1 rfl rfl rfl) <| And.intro (opS A25_4 1 2 rfl rfl rfl) <| And.intro (opS A25_4 2 3 rfl rfl rfl) <| And.intro (opS A25_4 3 4 rfl rfl rfl) <| And.intro (opS A25_4 4 5 rfl rfl rfl) <| And.intro (condK K25_5 K25_6 K25_9 rfl) <| And.intro (seqK K25_6 K25_7 K25_8 rfl) <| And.intro (regK K25_7 A25_7 rfl) <| And.intro (nilK A25_7 1 rfl) <| And.intro (opS A25_7 0 1 rfl rfl rfl) <| And.intro (retK K25_8 rfl) <| And.intro (skipK K25_9 rfl) <| And.intro (seqK K25_10 K25_11 K25_31 rfl) <| And.intro (seqK K25_11 K25_12 K25_13 rfl) <| And.intro (regK K25_12 A25_12 rfl) <| And.intro (nilK A25_12 1 rfl) <| And.intro (opS A25_12 0 1 rfl rfl rfl) <| And.intro (blkK K25_13 K25_14 rfl) <| And.intro (loopK K25_14 K25_15 rfl) <| And.intro (seqK K25_15 K25_16 K25_21 rfl) <| And.intro (seqK K25_16 K25_17 K25_18 rfl) <| And.intro (regK K25_17 A25_17 rfl) <| And.intro (nilK A25_17 4 rfl) <| And.intro (opS A25_17 0 1 rfl rfl rfl) <| And.intro (opS A25_17 1 2 rfl rfl rfl) <| And.intro (opS A25_17 2 3 rfl rfl rfl) <| And.intro (opS A25_17 3 4 rfl rfl rfl) <| And.intro (condK K25_18 K25_19 K25_20 rfl) <| And.intro (skipK K25_19 rfl) <| And.intro (exitK K25_20 rfl) <| And.intro (seqK K25_21 K25_22 K25_30 rfl) <| blkK K25_22 K25_23 rfl
theorem code25_1 : type_of% (And.intro (seqK K25_23 K25_24 K25_25 rfl) <| And.intro (nilX A25_24 9 rfl) <| And.intro (opSX A25_24 0 1 true rfl rfl rfl rfl) <| And.intro (opSX A25_24 1 2 true rfl rfl rfl rfl) <| And.intro (opSX A25_24 2 3 true rfl rfl rfl rfl) <| And.intro (opSX A25_24 3 4 true rfl rfl rfl rfl) <| And.intro (opSX A25_24 4 5 true rfl rfl rfl rfl) <| And.intro (opSX A25_24 5 6 true rfl rfl rfl rfl) <| And.intro (opSX A25_24 6 7 true rfl rfl rfl rfl) <| And.intro (opSX A25_24 7 8 true rfl rfl rfl rfl) <| And.intro (opSX A25_24 8 9 true rfl rfl rfl rfl) <| And.intro (condK K25_25 K25_26 K25_29 rfl) <| And.intro (seqK K25_26 K25_27 K25_28 rfl) <| And.intro (regK K25_27 A25_27 rfl) <| And.intro (nilK A25_27 1 rfl) <| And.intro (opS A25_27 0 1 rfl rfl rfl) <| And.intro (retK K25_28 rfl) <| And.intro (skipK K25_29 rfl) <| And.intro (regK K25_30 A25_30 rfl) <| And.intro (nilK A25_30 3 rfl) <| And.intro (opS A25_30 0 1 rfl rfl rfl) <| And.intro (opS A25_30 1 2 rfl rfl rfl) <| And.intro (opS A25_30 2 3 rfl rfl rfl) <| And.intro (seqK K25_31 K25_32 K25_33 rfl) <| And.intro (regK K25_32 A25_32 rfl) <| And.intro (nilK A25_32 1 rfl) <| And.intro (opS A25_32 0 1 rfl rfl rfl) <| retK K25_33 rfl) := And.intro (seqK K25_23 K25_24 K25_25 rfl) <| And.intro (nilX A25_24 9 rfl) <| And.intro (opSX A25_24 0 1 true rfl rfl rfl rfl) <| And.intro (opSX A25_24 1 2 true rfl rfl rfl rfl) <| And.intro (opSX A25_24 2 3 true rfl rfl rfl rfl) <| And.intro (opSX A25_24 3 4 true rfl rfl rfl rfl) <| And.intro (opSX A25_24 4 5 true rfl rfl rfl rfl) <| And.intro (opSX A25_24 5 6 true rfl rfl rfl rfl) <| And.intro (opSX A25_24 6 7 true rfl rfl rfl rfl) <| And.intro (opSX A25_24 7 8 true rfl rfl rfl rfl) <| And.intro (opSX A25_24 8 9 true rfl rfl rfl rfl) <| And.intro (condK K25_25 K25_26 K25_29 rfl) <| And.intro (seqK K25_26 K25_27 K25_28 rfl) <| And.intro (regK K25_27 A25_27 rfl) <| And.intro (nilK A25_27 1 rfl) <| And.intro (opS A25_27 0 1 rfl rfl rfl) <| And.intro (retK K25_28 rfl) <| And.intro (skipK K25_29 rfl) <| And.intro (regK K25_30 A25_30 rfl) <| And.intro (nilK A25_30 3 rfl) <| And.intro (opS A25_30 0 1 rfl rfl rfl) <| And.intro (opS A25_30 1 2 rfl rfl rfl) <| And.intro (opS A25_30 2 3 rfl rfl rfl) <| And.intro (seqK K25_31 K25_32 K25_33 rfl) <| And.intro (regK K25_32 A25_32 rfl) <| And.intro (nilK A25_32 1 rfl) <| And.intro (opS A25_32 0 1 rfl rfl rfl) <| retK K25_33 rfl
theorem ty25 : type_of% (And.intro @ix32 <| And.intro @ld3 <| And.intro @ln32 <| @fi25) := And.intro @ix32 <| And.intro @ld3 <| And.intro @ln32 <| @fi25

noncomputable def K4_0 : Code := Try.f4.body.getD .skip
noncomputable def K4_1 : Code := lft K4_0
noncomputable def A4_1 : Array Oper := rops K4_1
noncomputable def K4_2 : Code := rgt K4_0
noncomputable def K4_3 : Code := lft K4_2
noncomputable def K4_4 : Code := lft K4_3
noncomputable def A4_4 : Array Oper := rops K4_4
noncomputable def K4_5 : Code := rgt K4_3
noncomputable def K4_6 : Code := lft K4_5
noncomputable def K4_7 : Code := lft K4_6
noncomputable def A4_7 : Array Oper := rops K4_7
noncomputable def K4_8 : Code := rgt K4_6
noncomputable def K4_9 : Code := rgt K4_5
noncomputable def K4_10 : Code := rgt K4_2
noncomputable def K4_11 : Code := lft K4_10
noncomputable def K4_12 : Code := lft K4_11
noncomputable def A4_12 : Array Oper := rops K4_12
noncomputable def K4_13 : Code := rgt K4_11
noncomputable def K4_14 : Code := lft K4_13
noncomputable def K4_15 : Code := lft K4_14
noncomputable def A4_15 : Array Oper := rops K4_15
noncomputable def K4_16 : Code := rgt K4_14
noncomputable def K4_17 : Code := rgt K4_13
noncomputable def K4_18 : Code := rgt K4_10
noncomputable def K4_19 : Code := lft K4_18
noncomputable def A4_19 : Array Oper := rops K4_19
noncomputable def K4_20 : Code := rgt K4_18
noncomputable def K4_21 : Code := lft K4_20
noncomputable def A4_21 : Array Oper := rops K4_21
noncomputable def K4_22 : Code := rgt K4_20
noncomputable def K4_23 : Code := lft K4_22
noncomputable def A4_23 : Array Oper := rops K4_23
noncomputable def K4_24 : Code := rgt K4_22
noncomputable def K4_25 : Code := lft K4_24
noncomputable def K4_26 : Code := lft K4_25
noncomputable def A4_26 : Array Oper := rops K4_26
noncomputable def K4_27 : Code := rgt K4_25
noncomputable def K4_28 : Code := lft K4_27
noncomputable def K4_29 : Code := lft K4_28
noncomputable def A4_29 : Array Oper := rops K4_29
noncomputable def K4_30 : Code := rgt K4_28
noncomputable def K4_31 : Code := rgt K4_27
noncomputable def K4_32 : Code := rgt K4_24
noncomputable def K4_33 : Code := lft K4_32
noncomputable def A4_33 : Array Oper := rops K4_33
noncomputable def K4_34 : Code := rgt K4_32
noncomputable def K4_35 : Code := lft K4_34
noncomputable def K4_36 : Code := lft K4_35
noncomputable def A4_36 : Array Oper := rops K4_36
noncomputable def K4_37 : Code := rgt K4_35
noncomputable def K4_38 : Code := lft K4_37
noncomputable def K4_39 : Code := lft K4_38
noncomputable def A4_39 : Array Oper := rops K4_39
noncomputable def K4_40 : Code := rgt K4_38
noncomputable def K4_41 : Code := rgt K4_37
noncomputable def K4_42 : Code := rgt K4_34
noncomputable def K4_43 : Code := lft K4_42
noncomputable def A4_43 : Array Oper := rops K4_43
noncomputable def K4_44 : Code := rgt K4_42
noncomputable def K4_45 : Code := lft K4_44
noncomputable def A4_45 : Array Oper := rops K4_45
noncomputable def K4_46 : Code := rgt K4_44
theorem body4 : Try.f4.body = some K4_0 := by kernel_rfl
theorem D4_36 : DrawK K4_36 A4_36 := drawK rfl (by kernel_rfl)
theorem D4_43 : DrawK K4_43 A4_43 := drawK rfl (by kernel_rfl)
theorem code4_0 : type_of% (And.intro (seqK K4_0 K4_1 K4_2 rfl) <| And.intro (regK K4_1 A4_1 rfl) <| And.intro (nilK A4_1 2 rfl) <| And.intro (opS A4_1 0 1 rfl rfl rfl) <| And.intro (opS A4_1 1 2 rfl rfl rfl) <| And.intro (seqK K4_2 K4_3 K4_10 rfl) <| And.intro (seqK K4_3 K4_4 K4_5 rfl) <| And.intro (regK K4_4 A4_4 rfl) <| And.intro (nilK A4_4 2 rfl) <| And.intro (opS A4_4 0 1 rfl rfl rfl) <| And.intro (opS A4_4 1 2 rfl rfl rfl) <| And.intro (condK K4_5 K4_6 K4_9 rfl) <| And.intro (seqK K4_6 K4_7 K4_8 rfl) <| And.intro (regK K4_7 A4_7 rfl) <| And.intro (nilK A4_7 1 rfl) <| And.intro (opS A4_7 0 1 rfl rfl rfl) <| And.intro (retK K4_8 rfl) <| And.intro (skipK K4_9 rfl) <| And.intro (seqK K4_10 K4_11 K4_18 rfl) <| And.intro (seqK K4_11 K4_12 K4_13 rfl) <| And.intro (regK K4_12 A4_12 rfl) <| And.intro (nilK A4_12 20 rfl) <| And.intro (opS A4_12 0 1 rfl rfl rfl) <| And.intro (opS A4_12 1 2 rfl rfl rfl) <| And.intro (opS A4_12 2 3 rfl rfl rfl) <| And.intro (opS A4_12 3 4 rfl rfl rfl) <| And.intro (opS A4_12 4 5 rfl rfl rfl) <| And.intro (opSG A4_12 5 6 rfl rfl rfl rfl) <| And.intro (opSG A4_12 6 7 rfl rfl rfl rfl) <| And.intro (opSG A4_12 7 8 rfl rfl rfl rfl) <| And.intro (opS A4_12 8 9 rfl rfl rfl) <| And.intro (opS A4_12 9 10 rfl rfl rfl) <| And.intro (opSG A4_12 10 11 rfl rfl rfl rfl) <| And.intro (opSG A4_12 11 12 rfl rfl rfl rfl) <| And.intro (opSG A4_12 12 13 rfl rfl rfl rfl) <| And.intro (opS A4_12 13 14 rfl rfl rfl) <| And.intro (opS A4_12 14 15 rfl rfl rfl) <| And.intro (opSG A4_12 15 16 rfl rfl rfl rfl) <| And.intro (opSG A4_12 16 17 rfl rfl rfl rfl) <| opSG A4_12 17 18 rfl rfl rfl rfl) := And.intro (seqK K4_0 K4_1 K4_2 rfl) <| And.intro (regK K4_1 A4_1 rfl) <| And.intro (nilK A4_1 2 rfl) <| And.intro (opS A4_1 0 1 rfl rfl rfl) <| And.intro (opS A4_1 1 2 rfl rfl rfl) <| And.intro (seqK K4_2 K4_3 K4_10 rfl) <| And.intro (seqK K4_3 K4_4 K4_5 rfl) <| And.intro (regK K4_4 A4_4 rfl) <| And.intro (nilK A4_4 2 rfl) <| And.intro (opS A4_4 0 1 rfl rfl rfl) <| And.intro (opS A4_4 1 2 rfl rfl rfl) <| And.intro (condK K4_5 K4_6 K4_9 rfl) <| And.intro (seqK K4_6 K4_7 K4_8 rfl) <| And.intro (regK K4_7 A4_7 rfl) <| And.intro (nilK A4_7 1 rfl) <| And.intro (opS A4_7 0 1 rfl rfl rfl) <| And.intro (retK K4_8 rfl) <| And.intro (skipK K4_9 rfl) <| And.intro (seqK K4_10 K4_11 K4_18 rfl) <| And.intro (seqK K4_11 K4_12 K4_13 rfl) <| And.intro (regK K4_12 A4_12 rfl) <| And.intro (nilK A4_12 20 rfl) <| And.intro (opS A4_12 0 1 rfl rfl rfl) <| And.intro (opS A4_12 1 2 rfl rfl rfl) <| And.intro (opS A4_12 2 3 rfl rfl rfl) <| And.intro (opS A4_12 3 4 rfl rfl rfl) <| And.intro (opS A4_12 4 5 rfl rfl rfl) <| And.intro (opSG A4_12 5 6 rfl rfl rfl rfl) <| And.intro (opSG A4_12 6 7 rfl rfl rfl rfl) <| And.intro (opSG A4_12 7 8 rfl rfl rfl rfl) <| And.intro (opS A4_12 8 9 rfl rfl rfl) <| And.intro (opS A4_12 9 10 rfl rfl rfl) <| And.intro (opSG A4_12 10 11 rfl rfl rfl rfl) <| And.intro (opSG A4_12 11 12 rfl rfl rfl rfl) <| And.intro (opSG A4_12 12 13 rfl rfl rfl rfl) <| And.intro (opS A4_12 13 14 rfl rfl rfl) <| And.intro (opS A4_12 14 15 rfl rfl rfl) <| And.intro (opSG A4_12 15 16 rfl rfl rfl rfl) <| And.intro (opSG A4_12 16 17 rfl rfl rfl rfl) <| opSG A4_12 17 18 rfl rfl rfl rfl
theorem code4_1 : type_of% (And.intro (opSG A4_12 18 19 rfl rfl rfl rfl) <| And.intro (opS A4_12 19 20 rfl rfl rfl) <| And.intro (condK K4_13 K4_14 K4_17 rfl) <| And.intro (seqK K4_14 K4_15 K4_16 rfl) <| And.intro (regK K4_15 A4_15 rfl) <| And.intro (nilK A4_15 1 rfl) <| And.intro (opS A4_15 0 1 rfl rfl rfl) <| And.intro (retK K4_16 rfl) <| And.intro (skipK K4_17 rfl) <| And.intro (seqK K4_18 K4_19 K4_20 rfl) <| And.intro (regK K4_19 A4_19 rfl) <| And.intro (nilK A4_19 5 rfl) <| And.intro (opS A4_19 0 1 rfl rfl rfl) <| And.intro (opS A4_19 1 2 rfl rfl rfl) <| And.intro (opS A4_19 2 3 rfl rfl rfl) <| And.intro (opS A4_19 3 4 rfl rfl rfl) <| And.intro (opS A4_19 4 5 rfl rfl rfl) <| And.intro (seqK K4_20 K4_21 K4_22 rfl) <| And.intro (regK K4_21 A4_21 rfl) <| And.intro (nilK A4_21 6 rfl) <| And.intro (opS A4_21 0 1 rfl rfl rfl) <| And.intro (opS A4_21 1 2 rfl rfl rfl) <| And.intro (opS A4_21 2 3 rfl rfl rfl) <| And.intro (opS A4_21 3 4 rfl rfl rfl) <| And.intro (opS A4_21 4 5 rfl rfl rfl) <| And.intro (opS A4_21 5 6 rfl rfl rfl) <| And.intro (seqK K4_22 K4_23 K4_24 rfl) <| And.intro (regK K4_23 A4_23 rfl) <| And.intro (nilK A4_23 7 rfl) <| And.intro (opS A4_23 0 1 rfl rfl rfl) <| And.intro (opS A4_23 1 2 rfl rfl rfl) <| And.intro (opS A4_23 2 3 rfl rfl rfl) <| And.intro (opS A4_23 3 4 rfl rfl rfl) <| And.intro (opS A4_23 4 5 rfl rfl rfl) <| And.intro (opS A4_23 5 6 rfl rfl rfl) <| And.intro (opS A4_23 6 7 rfl rfl rfl) <| And.intro (seqK K4_24 K4_25 K4_32 rfl) <| And.intro (seqK K4_25 K4_26 K4_27 rfl) <| And.intro (regK K4_26 A4_26 rfl) <| nilK A4_26 24 rfl) := And.intro (opSG A4_12 18 19 rfl rfl rfl rfl) <| And.intro (opS A4_12 19 20 rfl rfl rfl) <| And.intro (condK K4_13 K4_14 K4_17 rfl) <| And.intro (seqK K4_14 K4_15 K4_16 rfl) <| And.intro (regK K4_15 A4_15 rfl) <| And.intro (nilK A4_15 1 rfl) <| And.intro (opS A4_15 0 1 rfl rfl rfl) <| And.intro (retK K4_16 rfl) <| And.intro (skipK K4_17 rfl) <| And.intro (seqK K4_18 K4_19 K4_20 rfl) <| And.intro (regK K4_19 A4_19 rfl) <| And.intro (nilK A4_19 5 rfl) <| And.intro (opS A4_19 0 1 rfl rfl rfl) <| And.intro (opS A4_19 1 2 rfl rfl rfl) <| And.intro (opS A4_19 2 3 rfl rfl rfl) <| And.intro (opS A4_19 3 4 rfl rfl rfl) <| And.intro (opS A4_19 4 5 rfl rfl rfl) <| And.intro (seqK K4_20 K4_21 K4_22 rfl) <| And.intro (regK K4_21 A4_21 rfl) <| And.intro (nilK A4_21 6 rfl) <| And.intro (opS A4_21 0 1 rfl rfl rfl) <| And.intro (opS A4_21 1 2 rfl rfl rfl) <| And.intro (opS A4_21 2 3 rfl rfl rfl) <| And.intro (opS A4_21 3 4 rfl rfl rfl) <| And.intro (opS A4_21 4 5 rfl rfl rfl) <| And.intro (opS A4_21 5 6 rfl rfl rfl) <| And.intro (seqK K4_22 K4_23 K4_24 rfl) <| And.intro (regK K4_23 A4_23 rfl) <| And.intro (nilK A4_23 7 rfl) <| And.intro (opS A4_23 0 1 rfl rfl rfl) <| And.intro (opS A4_23 1 2 rfl rfl rfl) <| And.intro (opS A4_23 2 3 rfl rfl rfl) <| And.intro (opS A4_23 3 4 rfl rfl rfl) <| And.intro (opS A4_23 4 5 rfl rfl rfl) <| And.intro (opS A4_23 5 6 rfl rfl rfl) <| And.intro (opS A4_23 6 7 rfl rfl rfl) <| And.intro (seqK K4_24 K4_25 K4_32 rfl) <| And.intro (seqK K4_25 K4_26 K4_27 rfl) <| And.intro (regK K4_26 A4_26 rfl) <| nilK A4_26 24 rfl
theorem code4_2 : type_of% (And.intro (opS A4_26 0 1 rfl rfl rfl) <| And.intro (opS A4_26 1 2 rfl rfl rfl) <| And.intro (opS A4_26 2 3 rfl rfl rfl) <| And.intro (opSG A4_26 3 4 rfl rfl rfl rfl) <| And.intro (opSG A4_26 4 5 rfl rfl rfl rfl) <| And.intro (opS A4_26 5 6 rfl rfl rfl) <| And.intro (opS A4_26 6 7 rfl rfl rfl) <| And.intro (opSG A4_26 7 8 rfl rfl rfl rfl) <| And.intro (opSG A4_26 8 9 rfl rfl rfl rfl) <| And.intro (opSG A4_26 9 10 rfl rfl rfl rfl) <| And.intro (opSG A4_26 10 11 rfl rfl rfl rfl) <| And.intro (opSG A4_26 11 12 rfl rfl rfl rfl) <| And.intro (opSG A4_26 12 13 rfl rfl rfl rfl) <| And.intro (opSG A4_26 13 14 rfl rfl rfl rfl) <| And.intro (opSG A4_26 14 15 rfl rfl rfl rfl) <| And.intro (opSG A4_26 15 16 rfl rfl rfl rfl) <| And.intro (opSG A4_26 16 17 rfl rfl rfl rfl) <| And.intro (opSG A4_26 17 18 rfl rfl rfl rfl) <| And.intro (opSG A4_26 18 19 rfl rfl rfl rfl) <| And.intro (opSG A4_26 19 20 rfl rfl rfl rfl) <| And.intro (opSG A4_26 20 21 rfl rfl rfl rfl) <| And.intro (opSG A4_26 21 22 rfl rfl rfl rfl) <| And.intro (opSG A4_26 22 23 rfl rfl rfl rfl) <| And.intro (opS A4_26 23 24 rfl rfl rfl) <| And.intro (condK K4_27 K4_28 K4_31 rfl) <| And.intro (seqK K4_28 K4_29 K4_30 rfl) <| And.intro (regK K4_29 A4_29 rfl) <| And.intro (nilK A4_29 1 rfl) <| And.intro (opS A4_29 0 1 rfl rfl rfl) <| And.intro (retK K4_30 rfl) <| And.intro (skipK K4_31 rfl) <| And.intro (seqK K4_32 K4_33 K4_34 rfl) <| And.intro (regK K4_33 A4_33 rfl) <| And.intro (nilK A4_33 3 rfl) <| And.intro (opS A4_33 0 1 rfl rfl rfl) <| And.intro (opS A4_33 1 2 rfl rfl rfl) <| And.intro (opS A4_33 2 3 rfl rfl rfl) <| And.intro (seqK K4_34 K4_35 K4_42 rfl) <| And.intro (seqK K4_35 K4_36 K4_37 rfl) <| nilX A4_36 16 rfl) := And.intro (opS A4_26 0 1 rfl rfl rfl) <| And.intro (opS A4_26 1 2 rfl rfl rfl) <| And.intro (opS A4_26 2 3 rfl rfl rfl) <| And.intro (opSG A4_26 3 4 rfl rfl rfl rfl) <| And.intro (opSG A4_26 4 5 rfl rfl rfl rfl) <| And.intro (opS A4_26 5 6 rfl rfl rfl) <| And.intro (opS A4_26 6 7 rfl rfl rfl) <| And.intro (opSG A4_26 7 8 rfl rfl rfl rfl) <| And.intro (opSG A4_26 8 9 rfl rfl rfl rfl) <| And.intro (opSG A4_26 9 10 rfl rfl rfl rfl) <| And.intro (opSG A4_26 10 11 rfl rfl rfl rfl) <| And.intro (opSG A4_26 11 12 rfl rfl rfl rfl) <| And.intro (opSG A4_26 12 13 rfl rfl rfl rfl) <| And.intro (opSG A4_26 13 14 rfl rfl rfl rfl) <| And.intro (opSG A4_26 14 15 rfl rfl rfl rfl) <| And.intro (opSG A4_26 15 16 rfl rfl rfl rfl) <| And.intro (opSG A4_26 16 17 rfl rfl rfl rfl) <| And.intro (opSG A4_26 17 18 rfl rfl rfl rfl) <| And.intro (opSG A4_26 18 19 rfl rfl rfl rfl) <| And.intro (opSG A4_26 19 20 rfl rfl rfl rfl) <| And.intro (opSG A4_26 20 21 rfl rfl rfl rfl) <| And.intro (opSG A4_26 21 22 rfl rfl rfl rfl) <| And.intro (opSG A4_26 22 23 rfl rfl rfl rfl) <| And.intro (opS A4_26 23 24 rfl rfl rfl) <| And.intro (condK K4_27 K4_28 K4_31 rfl) <| And.intro (seqK K4_28 K4_29 K4_30 rfl) <| And.intro (regK K4_29 A4_29 rfl) <| And.intro (nilK A4_29 1 rfl) <| And.intro (opS A4_29 0 1 rfl rfl rfl) <| And.intro (retK K4_30 rfl) <| And.intro (skipK K4_31 rfl) <| And.intro (seqK K4_32 K4_33 K4_34 rfl) <| And.intro (regK K4_33 A4_33 rfl) <| And.intro (nilK A4_33 3 rfl) <| And.intro (opS A4_33 0 1 rfl rfl rfl) <| And.intro (opS A4_33 1 2 rfl rfl rfl) <| And.intro (opS A4_33 2 3 rfl rfl rfl) <| And.intro (seqK K4_34 K4_35 K4_42 rfl) <| And.intro (seqK K4_35 K4_36 K4_37 rfl) <| nilX A4_36 16 rfl
theorem code4_3 : type_of% (And.intro (opSX A4_36 0 1 true rfl rfl rfl rfl) <| And.intro (opSX A4_36 1 2 true rfl rfl rfl rfl) <| And.intro (opSX A4_36 2 3 true rfl rfl rfl rfl) <| And.intro (opSX A4_36 3 4 true rfl rfl rfl rfl) <| And.intro (opSX A4_36 4 5 true rfl rfl rfl rfl) <| And.intro (opSX A4_36 5 6 true rfl rfl rfl rfl) <| And.intro (opSY A4_36 6 7 true rfl rfl rfl rfl rfl) <| And.intro (opSY A4_36 7 8 true rfl rfl rfl rfl rfl) <| And.intro (opSY A4_36 8 9 true rfl rfl rfl rfl rfl) <| And.intro (opSY A4_36 9 10 false rfl rfl rfl rfl rfl) <| And.intro (opSY A4_36 10 11 true rfl rfl rfl rfl rfl) <| And.intro (opSY A4_36 11 12 true rfl rfl rfl rfl rfl) <| And.intro (opSY A4_36 12 13 true rfl rfl rfl rfl rfl) <| And.intro (opSY A4_36 13 14 false rfl rfl rfl rfl rfl) <| And.intro (opSY A4_36 14 15 true rfl rfl rfl rfl rfl) <| And.intro (opSX A4_36 15 16 true rfl rfl rfl rfl) <| And.intro (condK K4_37 K4_38 K4_41 rfl) <| And.intro (seqK K4_38 K4_39 K4_40 rfl) <| And.intro (regK K4_39 A4_39 rfl) <| And.intro (nilK A4_39 1 rfl) <| And.intro (opS A4_39 0 1 rfl rfl rfl) <| And.intro (retK K4_40 rfl) <| And.intro (skipK K4_41 rfl) <| And.intro (seqK K4_42 K4_43 K4_44 rfl) <| And.intro (nilX A4_43 12 rfl) <| And.intro (opSX A4_43 0 1 true rfl rfl rfl rfl) <| And.intro (opSX A4_43 1 2 false rfl rfl rfl rfl) <| And.intro (opSX A4_43 2 3 true rfl rfl rfl rfl) <| And.intro (opSX A4_43 3 4 false rfl rfl rfl rfl) <| And.intro (opSX A4_43 4 5 false rfl rfl rfl rfl) <| And.intro (opSX A4_43 5 6 true rfl rfl rfl rfl) <| And.intro (opSX A4_43 6 7 false rfl rfl rfl rfl) <| And.intro (opSX A4_43 7 8 true rfl rfl rfl rfl) <| And.intro (opSX A4_43 8 9 false rfl rfl rfl rfl) <| And.intro (opSX A4_43 9 10 true rfl rfl rfl rfl) <| And.intro (opSX A4_43 10 11 false rfl rfl rfl rfl) <| And.intro (opSX A4_43 11 12 true rfl rfl rfl rfl) <| And.intro (seqK K4_44 K4_45 K4_46 rfl) <| And.intro (regK K4_45 A4_45 rfl) <| nilK A4_45 7 rfl) := And.intro (opSX A4_36 0 1 true rfl rfl rfl rfl) <| And.intro (opSX A4_36 1 2 true rfl rfl rfl rfl) <| And.intro (opSX A4_36 2 3 true rfl rfl rfl rfl) <| And.intro (opSX A4_36 3 4 true rfl rfl rfl rfl) <| And.intro (opSX A4_36 4 5 true rfl rfl rfl rfl) <| And.intro (opSX A4_36 5 6 true rfl rfl rfl rfl) <| And.intro (opSY A4_36 6 7 true rfl rfl rfl rfl rfl) <| And.intro (opSY A4_36 7 8 true rfl rfl rfl rfl rfl) <| And.intro (opSY A4_36 8 9 true rfl rfl rfl rfl rfl) <| And.intro (opSY A4_36 9 10 false rfl rfl rfl rfl rfl) <| And.intro (opSY A4_36 10 11 true rfl rfl rfl rfl rfl) <| And.intro (opSY A4_36 11 12 true rfl rfl rfl rfl rfl) <| And.intro (opSY A4_36 12 13 true rfl rfl rfl rfl rfl) <| And.intro (opSY A4_36 13 14 false rfl rfl rfl rfl rfl) <| And.intro (opSY A4_36 14 15 true rfl rfl rfl rfl rfl) <| And.intro (opSX A4_36 15 16 true rfl rfl rfl rfl) <| And.intro (condK K4_37 K4_38 K4_41 rfl) <| And.intro (seqK K4_38 K4_39 K4_40 rfl) <| And.intro (regK K4_39 A4_39 rfl) <| And.intro (nilK A4_39 1 rfl) <| And.intro (opS A4_39 0 1 rfl rfl rfl) <| And.intro (retK K4_40 rfl) <| And.intro (skipK K4_41 rfl) <| And.intro (seqK K4_42 K4_43 K4_44 rfl) <| And.intro (nilX A4_43 12 rfl) <| And.intro (opSX A4_43 0 1 true rfl rfl rfl rfl) <| And.intro (opSX A4_43 1 2 false rfl rfl rfl rfl) <| And.intro (opSX A4_43 2 3 true rfl rfl rfl rfl) <| And.intro (opSX A4_43 3 4 false rfl rfl rfl rfl) <| And.intro (opSX A4_43 4 5 false rfl rfl rfl rfl) <| And.intro (opSX A4_43 5 6 true rfl rfl rfl rfl) <| And.intro (opSX A4_43 6 7 false rfl rfl rfl rfl) <| And.intro (opSX A4_43 7 8 true rfl rfl rfl rfl) <| And.intro (opSX A4_43 8 9 false rfl rfl rfl rfl) <| And.intro (opSX A4_43 9 10 true rfl rfl rfl rfl) <| And.intro (opSX A4_43 10 11 false rfl rfl rfl rfl) <| And.intro (opSX A4_43 11 12 true rfl rfl rfl rfl) <| And.intro (seqK K4_44 K4_45 K4_46 rfl) <| And.intro (regK K4_45 A4_45 rfl) <| nilK A4_45 7 rfl
theorem code4_4 : type_of% (And.intro (opS A4_45 0 1 rfl rfl rfl) <| And.intro (opS A4_45 1 2 rfl rfl rfl) <| And.intro (opS A4_45 2 3 rfl rfl rfl) <| And.intro (opSG A4_45 3 4 rfl rfl rfl rfl) <| And.intro (opSG A4_45 4 5 rfl rfl rfl rfl) <| And.intro (opS A4_45 5 6 rfl rfl rfl) <| And.intro (opS A4_45 6 7 rfl rfl rfl) <| retK K4_46 rfl) := And.intro (opS A4_45 0 1 rfl rfl rfl) <| And.intro (opS A4_45 1 2 rfl rfl rfl) <| And.intro (opS A4_45 2 3 rfl rfl rfl) <| And.intro (opSG A4_45 3 4 rfl rfl rfl rfl) <| And.intro (opSG A4_45 4 5 rfl rfl rfl rfl) <| And.intro (opS A4_45 5 6 rfl rfl rfl) <| And.intro (opS A4_45 6 7 rfl rfl rfl) <| retK K4_46 rfl
theorem ty4 : type_of% (And.intro @bs22 <| And.intro @ld47 <| And.intro @ln24 <| And.intro @ln32 <| @fi4) := And.intro @bs22 <| And.intro @ld47 <| And.intro @ln24 <| And.intro @ln32 <| @fi4
end Go.Proofs.Ytompindebndddaa
namespace Go.Proofs.Ytompindebndddaa
open Go.Am
set_option linter.unusedSimpArgs false
set_option linter.unusedVariables false
set_option maxRecDepth 100000
set_option maxHeartbeats 0
theorem eq_atoms (a b : AtomD) : eqIn tab 20 39 a.val b.val = some (decide (a = b)) := by
  have h : eqIn tab 20 39 a.val b.val = eqA a b := by kernel_rfl
  rw [h, eqA_some]
theorem st104 (h : Heap) (l : List Blk) (w i o : Nat) (v : Value) (hi : i < l.length) : storeA tab 104 (.pointer (some ⟨h.size + i, o, none⟩)) v (h.lay l w) = if v.cells.size = 0 then storeO l[i]? i o v.cells.toList h l w else none := st_lay sz104 h l w i o v hi
theorem st103 (h : Heap) (l : List Blk) (w i o : Nat) (v : Value) (hi : i < l.length) : storeA tab 103 (.pointer (some ⟨h.size + i, o, none⟩)) v (h.lay l w) = if v.cells.size = 1 then storeO l[i]? i o v.cells.toList h l w else none := st_lay sz103 h l w i o v hi
theorem bld_es : buildA tab 104 [] = some (.agg ⟨[]⟩) := by kernel_rfl
theorem zero_es : tab.zero 104 = some (.agg ⟨[]⟩) := by kernel_rfl
theorem len_re (a : AtomD) (u w : Value) : (a.cells ++ [u, w]).length = 13 := rfl
theorem dec13 : decide (13 ≤ 13) = true := rfl
theorem drop13 (z0 z1 z2 z3 z4 z5 z6 z7 z8 z9 z10 z11 z12 : Value) : List.drop 13 [z0, z1, z2, z3, z4, z5, z6, z7, z8, z9, z10, z11, z12] = [] := rfl
theorem one_re {a : AtomD} {n : Int} {w : Value} (h : one w = true) : (a.cells ++ [.int .i64 n, w]).all one = true := by
  rw [List.all_append, one_atom, Bool.true_and]
  simp only [List.all_cons, List.all_nil, h, Bool.and_true]
  rfl
theorem cut_re13 (a : AtomD) (u w : Value) : cut (a.cells ++ [u, w]) 0 13 = some (a.cells ++ [u, w]) := rfl
theorem ok_lacks (a : AtomD) (met : List AtomD) (A B : Nat) (h : Heap) (m : MapA h B met) (q : Holds h A (.row [.map (some B)] 103 false)) (K : Value → Heap → Prop)
    (hk : ∀ h', Ext h h' → K (.bool (!decide (a ∈ met))) h') : Ok Try.prog tab ov 77 [a.val, .pointer (some ⟨A, 0, none⟩)] h K := by
  rw [lay_nil h]
  have z := Ext.refl h
  have hvm : ∀ (h : Heap) (K : Value → Heap → Prop), valE (some (.map (some B))) h K = K (.map (some B)) h := fun _ _ => rfl
  refine Ok.into rfl tab_fn77 body77 rfl (m := 12) rfl ?_
  simp -implicitDefEqProofs only [syms, symx, Nat.reduceAdd, Nat.reduceMul, Int.reduceLT, Int.reduceLE, Int.reduceAdd, Int.reduceSub, Int.reduceToNat, Int.reduceNeg, reduceIte, Nat.reduceGT, Nat.reduceLT, Nat.reduceLeDiff, code77_0, ty77, cells_atom, q.lay, hvm, ↓cut_atom, agg_atom, valE_atom, w_lookup]
  refine lookup_rule m ds103 eq_atoms zero_es ?_
  cases hd : decide (a ∈ met)
  all_goals
    rw [hd] at hk
    simp -implicitDefEqProofs only [syms, symx, Nat.reduceAdd, Nat.reduceMul, Int.reduceLT, Int.reduceLE, Int.reduceAdd, Int.reduceSub, Int.reduceToNat, Int.reduceNeg, reduceIte, Nat.reduceGT, Nat.reduceLT, Nat.reduceLeDiff, code77_0, ty77, lay_set, storeO_row, List.all_cons, List.all_nil, one, Bool.and_true, Bool.true_and, Bool.and_self, List.set_cons_zero, List.set_cons_succ, st4, st3, st9, st36, st39, st47, st41, st192, st104]
    repeat' ((first
      | ((with_reducible first | apply forkD | apply forkB | apply forkN | apply forkNP | apply forkNot) <;> intro _)
      | ((with_reducible_and_instances apply unop_not); (· rfl))) <;> simp -implicitDefEqProofs only [syms, symx, Nat.reduceAdd, Nat.reduceMul, Int.reduceLT, Int.reduceLE, Int.reduceAdd, Int.reduceSub, Int.reduceToNat, Int.reduceNeg, reduceIte, Nat.reduceGT, Nat.reduceLT, Nat.reduceLeDiff, code77_0, ty77, lay_set, storeO_row, List.all_cons, List.all_nil, one, Bool.and_true, Bool.true_and, Bool.and_self, List.set_cons_zero, List.set_cons_succ, st4, st3, st9, st36, st39, st47, st41, st192, st104])
    exact hk _ (z.upW _ _ (by omega))
theorem ok_founded (cl : List ClauseD) (facts : List AtomD) (l : List ReasonD) (cv fv v : Value) (h : Heap) (hc : Sl Rep.clause h cv cl) (hf : Sl Rep.atom h fv facts) (hl : Sl Rep.reason h v l) (hcs : cl.length ≤ 1000) (hfs : facts.length ≤ 1000) (hs : l.length ≤ 1000) (hbs : ∀ r ∈ l, r.body.length ≤ 100) (K : Value → Heap → Prop)
    (hk : ∀ h', Ext h h' → K (.int .i64 (foundD cl facts [] l 0)) h') : Ok Try.prog tab ov 17 [cv, fv, v] h K := by
  rw [lay_nil h]
  have z := Ext.refl h
  refine Ok.into rfl tab_fn17 body17 rfl (m := 41) rfl ?_
  simp -implicitDefEqProofs only [syms, symx, Nat.reduceAdd, Nat.reduceMul, Int.reduceLT, Int.reduceLE, Int.reduceAdd, Int.reduceSub, Int.reduceToNat, Int.reduceNeg, reduceIte, Nat.reduceGT, Nat.reduceLT, Nat.reduceLeDiff, code17_0, code17_1, code17_2, ty17, w_makeMap, lay_set, storeO_row, List.all_cons, List.all_nil, one, Bool.and_true, Bool.true_and, Bool.and_self, List.set_cons_zero, List.set_cons_succ, st4, st3, st9, st36, st39, st47, st41, st192, st103]
  repeat' ((first
    | ((with_reducible first | apply forkD | apply forkB | apply forkN | apply forkNP | apply forkNot) <;> intro _)
    | with_reducible_and_instances refine ln_rule (hl.mono z.inc) ds24 ?_
    | ((with_reducible_and_instances apply unop_not); (· rfl))) <;> simp -implicitDefEqProofs only [syms, symx, Nat.reduceAdd, Nat.reduceMul, Int.reduceLT, Int.reduceLE, Int.reduceAdd, Int.reduceSub, Int.reduceToNat, Int.reduceNeg, reduceIte, Nat.reduceGT, Nat.reduceLT, Nat.reduceLeDiff, code17_0, code17_1, code17_2, ty17, w_makeMap, lay_set, storeO_row, List.all_cons, List.all_nil, one, Bool.and_true, Bool.true_and, Bool.and_self, List.set_cons_zero, List.set_cons_succ, st4, st3, st9, st36, st39, st47, st41, st192, st103])
  refine W_fold (fun h' x hq => ?_)
  have q0 := hq 0 _ rfl
  have q1 := hq 1 _ rfl
  clear hq
  (replace z := z.overW x (by (try simp only [lay_size, List.length_cons, List.length_nil]); omega); rw [lay_nil h'])
  have m0 : MapA h' (h.size + 0) [] := ⟨[], 0, [], q0, rfl, fun _ => Iff.rfl, fun _ hx => by simp at hx⟩
  clear q0
  obtain ⟨I1, hI1⟩ : ∃ I : Nat → Env → Heap → Prop, I = (fun n e h' => ∃ (i : Nat) (met : List AtomD) (h1 : Heap), h' = h1.lay [] h1.low ∧ Ext h h1 ∧ (n = l.length - i ∧ i ≤ l.length ∧ foundD cl facts [] l 0 = foundD cl facts met (l.drop i) i ∧ MapA h1 (h.size + 0) met ∧ Holds h1 (h.size + 1) (.row [.map (some (h.size + 0))] 103 false)) ∧ ∃ J : Nat → Value, e = (cv :: fv :: J 2 :: J 3 :: J 4 :: J 5 :: J 6 :: .pointer (some ⟨h.size + 1, 0, none⟩) :: .func (.func 77) ⟨[]⟩ ⟨[.pointer (some ⟨h.size + 1, 0, none⟩)]⟩ :: J 9 :: J 10 :: J 11 :: J 12 :: v :: .int .i64 l.length :: .int .i64 i :: J 16 :: J 17 :: J 18 :: J 19 :: J 20 :: J 21 :: J 22 :: J 23 :: J 24 :: J 25 :: J 26 :: J 27 :: J 28 :: J 29 :: J 30 :: J 31 :: J 32 :: J 33 :: J 34 :: J 35 :: J 36 :: J 37 :: J 38 :: J 39 :: J 40 :: J 41 :: J 42 :: J 43 :: [])) := ⟨_, rfl⟩
  refine W_loopN I1 _ (by rw [hI1]; exact ⟨0, [], _, rfl, z, ⟨rfl, by omega, rfl, m0, q1⟩, junk (by kernel_rfl)⟩) ?_
  intro n e h' hin
  rw [hI1] at hin
  obtain ⟨i, met, h1', rfl, z, hinv, J, rfl⟩ := hin
  clear q1 m0
  obtain ⟨rfl, hi, hfd, m0, q1⟩ := hinv
  have hw : IntKind.i64.wrap ((i : Int) + 1) = ((i + 1 : Nat) : Int) := by rw [wrap_i64 (by omega) (by omega)]; omega
  simp -implicitDefEqProofs only [syms, symx, Nat.reduceAdd, Nat.reduceMul, Int.reduceLT, Int.reduceLE, Int.reduceAdd, Int.reduceSub, Int.reduceToNat, Int.reduceNeg, reduceIte, Nat.reduceGT, Nat.reduceLT, Nat.reduceLeDiff, code17_0, code17_1, code17_2, ty17]
  refine forkD (fun hlt => ?_) (fun hlt => ?_)
  rotate_left
  · simp -implicitDefEqProofs only [syms, symx, Nat.reduceAdd, Nat.reduceMul, Int.reduceLT, Int.reduceLE, Int.reduceAdd, Int.reduceSub, Int.reduceToNat, Int.reduceNeg, reduceIte, Nat.reduceGT, Nat.reduceLT, Nat.reduceLeDiff, code17_0, code17_1, code17_2, ty17]
    repeat' ((first
      | ((with_reducible first | apply forkD | apply forkB | apply forkN | apply forkNP | apply forkNot) <;> intro _)
      | with_reducible_and_instances refine ln_rule (hl.mono z.inc) ds24 ?_
      | ((with_reducible_and_instances apply unop_not); (· rfl))) <;> simp -implicitDefEqProofs only [syms, symx, Nat.reduceAdd, Nat.reduceMul, Int.reduceLT, Int.reduceLE, Int.reduceAdd, Int.reduceSub, Int.reduceToNat, Int.reduceNeg, reduceIte, Nat.reduceGT, Nat.reduceLT, Nat.reduceLeDiff, code17_0, code17_1, code17_2, ty17])
    rw [hfd, List.drop_of_length_le (by omega)] at hk
    exact hk _ (z.upW _ _ (by omega))
  obtain ⟨r, hr, hr'⟩ := amElem (l := l) (i := i) hlt
  have hrb := hbs r (List.mem_of_getElem? hr')
  have hstep : foundD cl facts [] l 0 = if badD cl facts met r = true then (i : Int) else foundD cl facts (r.atom :: met) (l.drop (i + 1)) (i + 1) := by
    rw [hfd]
    obtain ⟨hh, he⟩ := List.getElem?_eq_some_iff.1 hr'
    have d2 : l.drop i = r :: l.drop (i + 1) := by
      rw [← he]
      exact List.drop_eq_getElem_cons hh
    rw [d2]
    rfl
  simp -implicitDefEqProofs only [syms, symx, Nat.reduceAdd, Nat.reduceMul, Int.reduceLT, Int.reduceLE, Int.reduceAdd, Int.reduceSub, Int.reduceToNat, Int.reduceNeg, reduceIte, Nat.reduceGT, Nat.reduceLT, Nat.reduceLeDiff, code17_0, code17_1, code17_2, ty17]
  repeat' ((first
    | ((with_reducible first | apply forkD | apply forkB | apply forkN | apply forkNP | apply forkNot) <;> intro _)
    | with_reducible_and_instances refine ixr_at (hl.mono z.inc) ds24 sz41 (by omega) hr (fun p bd hbd hp => ?_)
    | with_reducible_and_instances refine ldr hp ag41 sz41 ?_
    | ((with_reducible_and_instances apply unop_not); (· rfl))) <;> simp -implicitDefEqProofs only [syms, symx, Nat.reduceAdd, Nat.reduceMul, Int.reduceLT, Int.reduceLE, Int.reduceAdd, Int.reduceSub, Int.reduceToNat, Int.reduceNeg, reduceIte, Nat.reduceGT, Nat.reduceLT, Nat.reduceLeDiff, code17_0, code17_1, code17_2, ty17])
  have hall := one_re (a := r.atom) (n := r.clause) hbd.one
  simp -implicitDefEqProofs only [syms, symx, Nat.reduceAdd, Nat.reduceMul, Int.reduceLT, Int.reduceLE, Int.reduceAdd, Int.reduceSub, Int.reduceToNat, Int.reduceNeg, reduceIte, Nat.reduceGT, Nat.reduceLT, Nat.reduceLeDiff, code17_0, code17_1, code17_2, ty17, lay_set, storeO_row, List.all_cons, List.all_nil, one, Bool.and_true, Bool.true_and, Bool.and_self, List.set_cons_zero, List.set_cons_succ, st4, st3, st9, st36, st39, st47, st41, st192, len_re, hall, dec13, drop13, if_true, ↓cut_re13]
  repeat' ((first
    | ((with_reducible first | apply forkD | apply forkB | apply forkN | apply forkNP | apply forkNot) <;> intro _)
    | with_reducible_and_instances refine ixr_at (hl.mono z.inc) ds24 sz41 (by omega) hr (fun p bd hbd hp => ?_)
    | with_reducible_and_instances refine ldr hp ag41 sz41 ?_
    | ((with_reducible_and_instances apply unop_not); (· rfl))) <;> simp -implicitDefEqProofs only [syms, symx, Nat.reduceAdd, Nat.reduceMul, Int.reduceLT, Int.reduceLE, Int.reduceAdd, Int.reduceSub, Int.reduceToNat, Int.reduceNeg, reduceIte, Nat.reduceGT, Nat.reduceLT, Nat.reduceLeDiff, code17_0, code17_1, code17_2, ty17, lay_set, storeO_row, List.all_cons, List.all_nil, one, Bool.and_true, Bool.true_and, Bool.and_self, List.set_cons_zero, List.set_cons_succ, st4, st3, st9, st36, st39, st47, st41, st192, len_re, hall, dec13, drop13, if_true, ↓cut_re13])
  have hfun : ∀ (a : AtomD) (hc' : Heap) (K' : Value → Heap → Prop), MapA hc' (h.size + 0) met → Holds hc' (h.size + 1) (.row [.map (some (h.size + 0))] 103 false) → (∀ h2, Ext hc' h2 → K' (.bool (!decide (a ∈ met))) h2) → callE Try.prog tab ov [a.val] hc' K' (.func (.func 77) ⟨[]⟩ ⟨[.pointer (some ⟨h.size + 1, 0, none⟩)]⟩) := by
    intro a hc' K' g1 g2 g3
    rw [callE_clos]
    exact ok_lacks a met _ _ hc' g1 g2 K' g3
  refine ok_right cl facts r cv fv bd _ (hc.mono (z.upW _ _ (by omega)).inc) (hf.mono (z.upW _ _ (by omega)).inc) (hbd.lay _ _) hcs hfs hrb _ (fun h' x => ?_)
  have q2 := Holds.top (i := 0) x rfl
  replace hbd := hbd.over x
  ((skip); replace z := z.overW x (by (try simp only [lay_size, List.length_cons, List.length_nil]); omega); (try replace q1 := q1.over x); (try replace m0 := m0.over x); rw [lay_nil h'])
  cases hrt : rightD cl facts r
  · simp -implicitDefEqProofs only [syms, symx, Nat.reduceAdd, Nat.reduceMul, Int.reduceLT, Int.reduceLE, Int.reduceAdd, Int.reduceSub, Int.reduceToNat, Int.reduceNeg, reduceIte, Nat.reduceGT, Nat.reduceLT, Nat.reduceLeDiff, code17_0, code17_1, code17_2, ty17]
    repeat' ((first
      | ((with_reducible first | apply forkD | apply forkB | apply forkN | apply forkNP | apply forkNot) <;> intro _)
      | with_reducible_and_instances refine ixr_at (hl.mono z.inc) ds24 sz41 (by omega) hr (fun p bd hbd hp => ?_)
      | with_reducible_and_instances refine ldr hp ag41 sz41 ?_
      | ((with_reducible_and_instances apply unop_not); (· rfl))) <;> simp -implicitDefEqProofs only [syms, symx, Nat.reduceAdd, Nat.reduceMul, Int.reduceLT, Int.reduceLE, Int.reduceAdd, Int.reduceSub, Int.reduceToNat, Int.reduceNeg, reduceIte, Nat.reduceGT, Nat.reduceLT, Nat.reduceLeDiff, code17_0, code17_1, code17_2, ty17])
    have hbad : badD cl facts met r = true := by unfold badD; rw [hrt]; rfl
    rw [hstep, if_pos hbad] at hk
    exact hk _ (z.upW _ _ (by omega))
  have valE_slbd : ∀ (h : Heap) (K : Value → Heap → Prop), valE (some bd) h K = K bd h := fun _ _ => rfl
  simp -implicitDefEqProofs only [syms, symx, Nat.reduceAdd, Nat.reduceMul, Int.reduceLT, Int.reduceLE, Int.reduceAdd, Int.reduceSub, Int.reduceToNat, Int.reduceNeg, reduceIte, Nat.reduceGT, Nat.reduceLT, Nat.reduceLeDiff, code17_0, code17_1, code17_2, ty17, q2.lay, ↓cut_re0, cell_re2, agg_atom, valE_atom]
  repeat' ((first
    | ((with_reducible first | apply forkD | apply forkB | apply forkN | apply forkNP | apply forkNot) <;> intro _)
    | with_reducible_and_instances refine ixr_at (hl.mono z.inc) ds24 sz41 (by omega) hr (fun p bd hbd hp => ?_)
    | with_reducible_and_instances refine ldr hp ag41 sz41 ?_
    | ((with_reducible_and_instances apply unop_not); (· rfl))) <;> simp -implicitDefEqProofs only [syms, symx, Nat.reduceAdd, Nat.reduceMul, Int.reduceLT, Int.reduceLE, Int.reduceAdd, Int.reduceSub, Int.reduceToNat, Int.reduceNeg, reduceIte, Nat.reduceGT, Nat.reduceLT, Nat.reduceLeDiff, code17_0, code17_1, code17_2, ty17, q2.lay, ↓cut_re0, cell_re2, agg_atom, valE_atom])
  refine hfun r.atom _ _ (m0.over (Ext.refl _)) (q1.on _ _) (fun h' x => ?_)
  ((skip); replace z := z.overW x (by (try simp only [lay_size, List.length_cons, List.length_nil]); omega); (try replace q1 := q1.over x); (try replace m0 := m0.over x); (try replace q2 := q2.over x); (try replace hbd := hbd.over x); rw [lay_nil h'])
  cases hm : decide (r.atom ∈ met)
  rotate_left
  · simp -implicitDefEqProofs only [syms, symx, Nat.reduceAdd, Nat.reduceMul, Int.reduceLT, Int.reduceLE, Int.reduceAdd, Int.reduceSub, Int.reduceToNat, Int.reduceNeg, reduceIte, Nat.reduceGT, Nat.reduceLT, Nat.reduceLeDiff, code17_0, code17_1, code17_2, ty17]
    repeat' ((first
      | ((with_reducible first | apply forkD | apply forkB | apply forkN | apply forkNP | apply forkNot) <;> intro _)
      | with_reducible_and_instances refine ixr_at (hl.mono z.inc) ds24 sz41 (by omega) hr (fun p bd hbd hp => ?_)
      | with_reducible_and_instances refine ldr hp ag41 sz41 ?_
      | ((with_reducible_and_instances apply unop_not); (· rfl))) <;> simp -implicitDefEqProofs only [syms, symx, Nat.reduceAdd, Nat.reduceMul, Int.reduceLT, Int.reduceLE, Int.reduceAdd, Int.reduceSub, Int.reduceToNat, Int.reduceNeg, reduceIte, Nat.reduceGT, Nat.reduceLT, Nat.reduceLeDiff, code17_0, code17_1, code17_2, ty17])
    have hbad : badD cl facts met r = true := by unfold badD; rw [hrt, hm]; rfl
    rw [hstep, if_pos hbad] at hk
    exact hk _ (z.upW _ _ (by omega))
  simp -implicitDefEqProofs only [syms, symx, Nat.reduceAdd, Nat.reduceMul, Int.reduceLT, Int.reduceLE, Int.reduceAdd, Int.reduceSub, Int.reduceToNat, Int.reduceNeg, reduceIte, Nat.reduceGT, Nat.reduceLT, Nat.reduceLeDiff, code17_0, code17_1, code17_2, ty17, q2.lay, cell_re2, valE_slbd]
  repeat' ((first
    | ((with_reducible first | apply forkD | apply forkB | apply forkN | apply forkNP | apply forkNot) <;> intro _)
    | with_reducible_and_instances refine ixr_at (hl.mono z.inc) ds24 sz41 (by omega) hr (fun p bd hbd hp => ?_)
    | with_reducible_and_instances refine ldr hp ag41 sz41 ?_
    | ((with_reducible_and_instances apply unop_not); (· rfl))) <;> simp -implicitDefEqProofs only [syms, symx, Nat.reduceAdd, Nat.reduceMul, Int.reduceLT, Int.reduceLE, Int.reduceAdd, Int.reduceSub, Int.reduceToNat, Int.reduceNeg, reduceIte, Nat.reduceGT, Nat.reduceLT, Nat.reduceLeDiff, code17_0, code17_1, code17_2, ty17, q2.lay, cell_re2, valE_slbd])
  refine ok_containsAtomF r.body bd _ (fun a => !decide (a ∈ met)) _ (hbd.lay _ _) (by omega) (fun y hc' K' xe hk' => ?_) _ (fun h' x => ?_)
  · exact hfun y hc' K' (m0.over xe) (q1.over xe) hk'
  ((skip); replace z := z.overW x (by (try simp only [lay_size, List.length_cons, List.length_nil]); omega); (try replace q1 := q1.over x); (try replace m0 := m0.over x); (try replace q2 := q2.over x); (try replace hbd := hbd.over x); rw [lay_nil h'])
  cases hany : r.body.any fun a => !decide (a ∈ met)
  rotate_left
  · simp -implicitDefEqProofs only [syms, symx, Nat.reduceAdd, Nat.reduceMul, Int.reduceLT, Int.reduceLE, Int.reduceAdd, Int.reduceSub, Int.reduceToNat, Int.reduceNeg, reduceIte, Nat.reduceGT, Nat.reduceLT, Nat.reduceLeDiff, code17_0, code17_1, code17_2, ty17]
    repeat' ((first
      | ((with_reducible first | apply forkD | apply forkB | apply forkN | apply forkNP | apply forkNot) <;> intro _)
      | with_reducible_and_instances refine ixr_at (hl.mono z.inc) ds24 sz41 (by omega) hr (fun p bd hbd hp => ?_)
      | with_reducible_and_instances refine ldr hp ag41 sz41 ?_
      | ((with_reducible_and_instances apply unop_not); (· rfl))) <;> simp -implicitDefEqProofs only [syms, symx, Nat.reduceAdd, Nat.reduceMul, Int.reduceLT, Int.reduceLE, Int.reduceAdd, Int.reduceSub, Int.reduceToNat, Int.reduceNeg, reduceIte, Nat.reduceGT, Nat.reduceLT, Nat.reduceLeDiff, code17_0, code17_1, code17_2, ty17])
    have hbad : badD cl facts met r = true := by unfold badD; rw [hrt, hm, hany]; rfl
    rw [hstep, if_pos hbad] at hk
    exact hk _ (z.upW _ _ (by omega))
  have hbad : badD cl facts met r = false := by unfold badD; rw [hrt, hm, hany]; rfl
  rw [hbad, if_neg (by decide)] at hstep
  have hvm : ∀ (h2 : Heap) (K : Value → Heap → Prop), valE (some (.map (some (h.size + 0)))) h2 K = K (.map (some (h.size + 0))) h2 := fun _ _ => rfl
  simp -implicitDefEqProofs only [syms, symx, Nat.reduceAdd, Nat.reduceMul, Int.reduceLT, Int.reduceLE, Int.reduceAdd, Int.reduceSub, Int.reduceToNat, Int.reduceNeg, reduceIte, Nat.reduceGT, Nat.reduceLT, Nat.reduceLeDiff, code17_0, code17_1, code17_2, ty17, q1.lay, q2.lay, ↓cut_re0, agg_atom, valE_atom, hvm, bld_es, w_mapUpdate]
  repeat' ((first
    | ((with_reducible first | apply forkD | apply forkB | apply forkN | apply forkNP | apply forkNot) <;> intro _)
    | with_reducible_and_instances refine ixr_at (hl.mono z.inc) ds24 sz41 (by omega) hr (fun p bd hbd hp => ?_)
    | with_reducible_and_instances refine ldr hp ag41 sz41 ?_
    | ((with_reducible_and_instances apply unop_not); (· rfl))) <;> simp -implicitDefEqProofs only [syms, symx, Nat.reduceAdd, Nat.reduceMul, Int.reduceLT, Int.reduceLE, Int.reduceAdd, Int.reduceSub, Int.reduceToNat, Int.reduceNeg, reduceIte, Nat.reduceGT, Nat.reduceLT, Nat.reduceLeDiff, code17_0, code17_1, code17_2, ty17, q1.lay, q2.lay, ↓cut_re0, agg_atom, valE_atom, hvm, bld_es, w_mapUpdate])
  obtain ⟨h3, hu, m3, c3⟩ := update_rule (h := h'.lay [] h'.low) (a := r.atom) (m0.over (Ext.refl _)) ds103 eq_atoms (by simpa using hm)
  rw [hu]
  have hz := z.size
  replace z := (z.upW [] h'.low (by omega)).step c3 (by omega)
  replace q1 := q1.stepL c3 (by omega)
  rw [lay_nil h3]
  simp -implicitDefEqProofs only [syms, symx, Nat.reduceAdd, Nat.reduceMul, Int.reduceLT, Int.reduceLE, Int.reduceAdd, Int.reduceSub, Int.reduceToNat, Int.reduceNeg, reduceIte, Nat.reduceGT, Nat.reduceLT, Nat.reduceLeDiff, code17_0, code17_1, code17_2, ty17]
  repeat' ((first
    | ((with_reducible first | apply forkD | apply forkB | apply forkN | apply forkNP | apply forkNot) <;> intro _)
    | with_reducible_and_instances refine ixr_at (hl.mono z.inc) ds24 sz41 (by omega) hr (fun p bd hbd hp => ?_)
    | with_reducible_and_instances refine ldr hp ag41 sz41 ?_
    | ((with_reducible_and_instances apply unop_not); (· rfl))) <;> simp -implicitDefEqProofs only [syms, symx, Nat.reduceAdd, Nat.reduceMul, Int.reduceLT, Int.reduceLE, Int.reduceAdd, Int.reduceSub, Int.reduceToNat, Int.reduceNeg, reduceIte, Nat.reduceGT, Nat.reduceLT, Nat.reduceLeDiff, code17_0, code17_1, code17_2, ty17])
  rw [hw]
  (rw [hI1]; with_reducible refine loopN_normal (m := _) ?_ ⟨i + 1, r.atom :: met, _, rfl, z, ⟨rfl, by omega, hstep, m3, q1⟩, junk (by kernel_rfl)⟩; omega)
end Go.Proofs.Ytompindebndddaa
