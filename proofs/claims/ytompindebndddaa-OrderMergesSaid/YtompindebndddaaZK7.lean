/- The code of some functions, node by node, for simp. Written by a program (mkcode.py). No condition. -/
import Derived.Test.YtompindebndddaaG19
import Derived.Test.YtompindebndddaaG14
import Derived.KernelRfl
namespace Go.Proofs.Ytompindebndddaa
open Go.Am
set_option linter.unusedVariables false
set_option maxRecDepth 100000
noncomputable def K5_0 : Code := Try.f5.body.getD .skip
noncomputable def K5_1 : Code := lft K5_0
noncomputable def A5_1 : Array Oper := rops K5_1
noncomputable def K5_2 : Code := rgt K5_0
noncomputable def K5_3 : Code := lft K5_2
noncomputable def K5_4 : Code := lft K5_3
noncomputable def A5_4 : Array Oper := rops K5_4
noncomputable def K5_5 : Code := rgt K5_3
noncomputable def K5_6 : Code := lft K5_5
noncomputable def K5_7 : Code := lft K5_6
noncomputable def A5_7 : Array Oper := rops K5_7
noncomputable def K5_8 : Code := rgt K5_6
noncomputable def K5_9 : Code := rgt K5_5
noncomputable def K5_10 : Code := rgt K5_2
noncomputable def K5_11 : Code := lft K5_10
noncomputable def K5_12 : Code := lft K5_11
noncomputable def A5_12 : Array Oper := rops K5_12
noncomputable def K5_13 : Code := rgt K5_11
noncomputable def K5_14 : Code := lft K5_13
noncomputable def K5_15 : Code := lft K5_14
noncomputable def A5_15 : Array Oper := rops K5_15
noncomputable def K5_16 : Code := rgt K5_14
noncomputable def K5_17 : Code := rgt K5_13
noncomputable def K5_18 : Code := rgt K5_10
noncomputable def K5_19 : Code := lft K5_18
noncomputable def A5_19 : Array Oper := rops K5_19
noncomputable def K5_20 : Code := rgt K5_18
noncomputable def K5_21 : Code := lft K5_20
noncomputable def K5_22 : Code := lft K5_21
noncomputable def A5_22 : Array Oper := rops K5_22
noncomputable def K5_23 : Code := rgt K5_21
noncomputable def K5_24 : Code := lft K5_23
noncomputable def K5_25 : Code := lft K5_24
noncomputable def K5_26 : Code := lft K5_25
noncomputable def K5_27 : Code := lft K5_26
noncomputable def A5_27 : Array Oper := rops K5_27
noncomputable def K5_28 : Code := rgt K5_26
noncomputable def K5_29 : Code := lft K5_28
noncomputable def K5_30 : Code := rgt K5_28
noncomputable def K5_31 : Code := rgt K5_25
noncomputable def K5_32 : Code := lft K5_31
noncomputable def K5_33 : Code := lft K5_32
noncomputable def K5_34 : Code := lft K5_33
noncomputable def A5_34 : Array Oper := rops K5_34
noncomputable def K5_35 : Code := rgt K5_33
noncomputable def K5_36 : Code := lft K5_35
noncomputable def K5_37 : Code := lft K5_36
noncomputable def A5_37 : Array Oper := rops K5_37
noncomputable def K5_38 : Code := rgt K5_36
noncomputable def K5_39 : Code := rgt K5_35
noncomputable def K5_40 : Code := rgt K5_31
noncomputable def A5_40 : Array Oper := rops K5_40
noncomputable def K5_41 : Code := rgt K5_20
noncomputable def K5_42 : Code := lft K5_41
noncomputable def A5_42 : Array Oper := rops K5_42
noncomputable def K5_43 : Code := rgt K5_41
noncomputable def K5_44 : Code := lft K5_43
noncomputable def K5_45 : Code := lft K5_44
noncomputable def A5_45 : Array Oper := rops K5_45
noncomputable def K5_46 : Code := rgt K5_44
noncomputable def K5_47 : Code := lft K5_46
noncomputable def K5_48 : Code := lft K5_47
noncomputable def A5_48 : Array Oper := rops K5_48
noncomputable def K5_49 : Code := rgt K5_47
noncomputable def K5_50 : Code := rgt K5_46
noncomputable def K5_51 : Code := rgt K5_43
noncomputable def K5_52 : Code := lft K5_51
noncomputable def A5_52 : Array Oper := rops K5_52
noncomputable def K5_53 : Code := rgt K5_51
noncomputable def K5_54 : Code := lft K5_53
noncomputable def A5_54 : Array Oper := rops K5_54
noncomputable def K5_55 : Code := rgt K5_53
noncomputable def K5_56 : Code := lft K5_55
noncomputable def K5_57 : Code := lft K5_56
noncomputable def A5_57 : Array Oper := rops K5_57
noncomputable def K5_58 : Code := rgt K5_56
noncomputable def K5_59 : Code := lft K5_58
noncomputable def K5_60 : Code := lft K5_59
noncomputable def K5_61 : Code := lft K5_60
noncomputable def K5_62 : Code := lft K5_61
noncomputable def A5_62 : Array Oper := rops K5_62
noncomputable def K5_63 : Code := rgt K5_61
noncomputable def K5_64 : Code := lft K5_63
noncomputable def K5_65 : Code := rgt K5_63
noncomputable def K5_66 : Code := rgt K5_60
noncomputable def K5_67 : Code := lft K5_66
noncomputable def K5_68 : Code := lft K5_67
noncomputable def K5_69 : Code := lft K5_68
noncomputable def A5_69 : Array Oper := rops K5_69
noncomputable def K5_70 : Code := rgt K5_68
noncomputable def K5_71 : Code := lft K5_70
noncomputable def K5_72 : Code := lft K5_71
noncomputable def A5_72 : Array Oper := rops K5_72
noncomputable def K5_73 : Code := rgt K5_71
noncomputable def K5_74 : Code := rgt K5_70
noncomputable def K5_75 : Code := rgt K5_66
noncomputable def A5_75 : Array Oper := rops K5_75
noncomputable def K5_76 : Code := rgt K5_55
noncomputable def K5_77 : Code := lft K5_76
noncomputable def A5_77 : Array Oper := rops K5_77
noncomputable def K5_78 : Code := rgt K5_76
theorem body5 : Try.f5.body = some K5_0 := by kernel_rfl
theorem D5_69 : DrawK K5_69 A5_69 := drawK rfl (by kernel_rfl)
noncomputable def xcode5_0 := PLift.up (And.intro (seqK K5_0 K5_1 K5_2 rfl) <| And.intro (regK K5_1 A5_1 rfl) <| And.intro (nilK A5_1 1 rfl) <| And.intro (opS A5_1 0 1 rfl rfl rfl) <| And.intro (seqK K5_2 K5_3 K5_10 rfl) <| And.intro (seqK K5_3 K5_4 K5_5 rfl) <| And.intro (regK K5_4 A5_4 rfl) <| And.intro (nilK A5_4 2 rfl) <| And.intro (opS A5_4 0 1 rfl rfl rfl) <| And.intro (opS A5_4 1 2 rfl rfl rfl) <| And.intro (condK K5_5 K5_6 K5_9 rfl) <| And.intro (seqK K5_6 K5_7 K5_8 rfl) <| And.intro (regK K5_7 A5_7 rfl) <| And.intro (nilK A5_7 1 rfl) <| And.intro (opS A5_7 0 1 rfl rfl rfl) <| And.intro (retK K5_8 rfl) <| And.intro (skipK K5_9 rfl) <| And.intro (seqK K5_10 K5_11 K5_18 rfl) <| And.intro (seqK K5_11 K5_12 K5_13 rfl) <| And.intro (regK K5_12 A5_12 rfl) <| And.intro (nilK A5_12 13 rfl) <| And.intro (opS A5_12 0 1 rfl rfl rfl) <| And.intro (opS A5_12 1 2 rfl rfl rfl) <| And.intro (opS A5_12 2 3 rfl rfl rfl) <| And.intro (opS A5_12 3 4 rfl rfl rfl) <| And.intro (opSG A5_12 4 5 rfl rfl rfl rfl) <| And.intro (opSG A5_12 5 6 rfl rfl rfl rfl) <| And.intro (opSG A5_12 6 7 rfl rfl rfl rfl) <| And.intro (opS A5_12 7 8 rfl rfl rfl) <| And.intro (opS A5_12 8 9 rfl rfl rfl) <| And.intro (opSG A5_12 9 10 rfl rfl rfl rfl) <| And.intro (opSG A5_12 10 11 rfl rfl rfl rfl) <| And.intro (opSG A5_12 11 12 rfl rfl rfl rfl) <| And.intro (opS A5_12 12 13 rfl rfl rfl) <| And.intro (condK K5_13 K5_14 K5_17 rfl) <| And.intro (seqK K5_14 K5_15 K5_16 rfl) <| And.intro (regK K5_15 A5_15 rfl) <| And.intro (nilK A5_15 1 rfl) <| And.intro (opS A5_15 0 1 rfl rfl rfl) <| retK K5_16 rfl)
theorem code5_0 : type_of% xcode5_0.down := xcode5_0.down
noncomputable def xcode5_1 := PLift.up (And.intro (skipK K5_17 rfl) <| And.intro (seqK K5_18 K5_19 K5_20 rfl) <| And.intro (regK K5_19 A5_19 rfl) <| And.intro (nilK A5_19 7 rfl) <| And.intro (opS A5_19 0 1 rfl rfl rfl) <| And.intro (opS A5_19 1 2 rfl rfl rfl) <| And.intro (opS A5_19 2 3 rfl rfl rfl) <| And.intro (opS A5_19 3 4 rfl rfl rfl) <| And.intro (opS A5_19 4 5 rfl rfl rfl) <| And.intro (opS A5_19 5 6 rfl rfl rfl) <| And.intro (opS A5_19 6 7 rfl rfl rfl) <| And.intro (seqK K5_20 K5_21 K5_41 rfl) <| And.intro (seqK K5_21 K5_22 K5_23 rfl) <| And.intro (regK K5_22 A5_22 rfl) <| And.intro (nilK A5_22 1 rfl) <| And.intro (opS A5_22 0 1 rfl rfl rfl) <| And.intro (blkK K5_23 K5_24 rfl) <| And.intro (loopK K5_24 K5_25 rfl) <| And.intro (seqK K5_25 K5_26 K5_31 rfl) <| And.intro (seqK K5_26 K5_27 K5_28 rfl) <| And.intro (regK K5_27 A5_27 rfl) <| And.intro (nilK A5_27 4 rfl) <| And.intro (opS A5_27 0 1 rfl rfl rfl) <| And.intro (opS A5_27 1 2 rfl rfl rfl) <| And.intro (opS A5_27 2 3 rfl rfl rfl) <| And.intro (opS A5_27 3 4 rfl rfl rfl) <| And.intro (condK K5_28 K5_29 K5_30 rfl) <| And.intro (skipK K5_29 rfl) <| And.intro (exitK K5_30 rfl) <| And.intro (seqK K5_31 K5_32 K5_40 rfl) <| And.intro (blkK K5_32 K5_33 rfl) <| And.intro (seqK K5_33 K5_34 K5_35 rfl) <| And.intro (regK K5_34 A5_34 rfl) <| And.intro (nilK A5_34 6 rfl) <| And.intro (opS A5_34 0 1 rfl rfl rfl) <| And.intro (opS A5_34 1 2 rfl rfl rfl) <| And.intro (opS A5_34 2 3 rfl rfl rfl) <| And.intro (opS A5_34 3 4 rfl rfl rfl) <| And.intro (opS A5_34 4 5 rfl rfl rfl) <| opS A5_34 5 6 rfl rfl rfl)
theorem code5_1 : type_of% xcode5_1.down := xcode5_1.down
noncomputable def xcode5_2 := PLift.up (And.intro (condK K5_35 K5_36 K5_39 rfl) <| And.intro (seqK K5_36 K5_37 K5_38 rfl) <| And.intro (regK K5_37 A5_37 rfl) <| And.intro (nilK A5_37 1 rfl) <| And.intro (opS A5_37 0 1 rfl rfl rfl) <| And.intro (retK K5_38 rfl) <| And.intro (skipK K5_39 rfl) <| And.intro (regK K5_40 A5_40 rfl) <| And.intro (nilK A5_40 3 rfl) <| And.intro (opS A5_40 0 1 rfl rfl rfl) <| And.intro (opS A5_40 1 2 rfl rfl rfl) <| And.intro (opS A5_40 2 3 rfl rfl rfl) <| And.intro (seqK K5_41 K5_42 K5_43 rfl) <| And.intro (regK K5_42 A5_42 rfl) <| And.intro (nilK A5_42 6 rfl) <| And.intro (opS A5_42 0 1 rfl rfl rfl) <| And.intro (opS A5_42 1 2 rfl rfl rfl) <| And.intro (opS A5_42 2 3 rfl rfl rfl) <| And.intro (opS A5_42 3 4 rfl rfl rfl) <| And.intro (opS A5_42 4 5 rfl rfl rfl) <| And.intro (opS A5_42 5 6 rfl rfl rfl) <| And.intro (seqK K5_43 K5_44 K5_51 rfl) <| And.intro (seqK K5_44 K5_45 K5_46 rfl) <| And.intro (regK K5_45 A5_45 rfl) <| And.intro (nilK A5_45 32 rfl) <| And.intro (opS A5_45 0 1 rfl rfl rfl) <| And.intro (opS A5_45 1 2 rfl rfl rfl) <| And.intro (opS A5_45 2 3 rfl rfl rfl) <| And.intro (opS A5_45 3 4 rfl rfl rfl) <| And.intro (opSG A5_45 4 5 rfl rfl rfl rfl) <| And.intro (opSG A5_45 5 6 rfl rfl rfl rfl) <| And.intro (opSG A5_45 6 7 rfl rfl rfl rfl) <| And.intro (opSG A5_45 7 8 rfl rfl rfl rfl) <| And.intro (opSG A5_45 8 9 rfl rfl rfl rfl) <| And.intro (opSG A5_45 9 10 rfl rfl rfl rfl) <| And.intro (opSG A5_45 10 11 rfl rfl rfl rfl) <| And.intro (opSG A5_45 11 12 rfl rfl rfl rfl) <| And.intro (opS A5_45 12 13 rfl rfl rfl) <| And.intro (opS A5_45 13 14 rfl rfl rfl) <| opSG A5_45 14 15 rfl rfl rfl rfl)
theorem code5_2 : type_of% xcode5_2.down := xcode5_2.down
noncomputable def xcode5_3 := PLift.up (And.intro (opSG A5_45 15 16 rfl rfl rfl rfl) <| And.intro (opSG A5_45 16 17 rfl rfl rfl rfl) <| And.intro (opSG A5_45 17 18 rfl rfl rfl rfl) <| And.intro (opSG A5_45 18 19 rfl rfl rfl rfl) <| And.intro (opSG A5_45 19 20 rfl rfl rfl rfl) <| And.intro (opSG A5_45 20 21 rfl rfl rfl rfl) <| And.intro (opSG A5_45 21 22 rfl rfl rfl rfl) <| And.intro (opSG A5_45 22 23 rfl rfl rfl rfl) <| And.intro (opSG A5_45 23 24 rfl rfl rfl rfl) <| And.intro (opS A5_45 24 25 rfl rfl rfl) <| And.intro (opS A5_45 25 26 rfl rfl rfl) <| And.intro (opSG A5_45 26 27 rfl rfl rfl rfl) <| And.intro (opSG A5_45 27 28 rfl rfl rfl rfl) <| And.intro (opSG A5_45 28 29 rfl rfl rfl rfl) <| And.intro (opSG A5_45 29 30 rfl rfl rfl rfl) <| And.intro (opSG A5_45 30 31 rfl rfl rfl rfl) <| And.intro (opS A5_45 31 32 rfl rfl rfl) <| And.intro (condK K5_46 K5_47 K5_50 rfl) <| And.intro (seqK K5_47 K5_48 K5_49 rfl) <| And.intro (regK K5_48 A5_48 rfl) <| And.intro (nilK A5_48 1 rfl) <| And.intro (opS A5_48 0 1 rfl rfl rfl) <| And.intro (retK K5_49 rfl) <| And.intro (skipK K5_50 rfl) <| And.intro (seqK K5_51 K5_52 K5_53 rfl) <| And.intro (regK K5_52 A5_52 rfl) <| And.intro (nilK A5_52 4 rfl) <| And.intro (opS A5_52 0 1 rfl rfl rfl) <| And.intro (opS A5_52 1 2 rfl rfl rfl) <| And.intro (opS A5_52 2 3 rfl rfl rfl) <| And.intro (opS A5_52 3 4 rfl rfl rfl) <| And.intro (seqK K5_53 K5_54 K5_55 rfl) <| And.intro (regK K5_54 A5_54 rfl) <| And.intro (nilK A5_54 4 rfl) <| And.intro (opS A5_54 0 1 rfl rfl rfl) <| And.intro (opS A5_54 1 2 rfl rfl rfl) <| And.intro (opS A5_54 2 3 rfl rfl rfl) <| And.intro (opS A5_54 3 4 rfl rfl rfl) <| And.intro (seqK K5_55 K5_56 K5_76 rfl) <| seqK K5_56 K5_57 K5_58 rfl)
theorem code5_3 : type_of% xcode5_3.down := xcode5_3.down
noncomputable def xcode5_4 := PLift.up (And.intro (regK K5_57 A5_57 rfl) <| And.intro (nilK A5_57 1 rfl) <| And.intro (opS A5_57 0 1 rfl rfl rfl) <| And.intro (blkK K5_58 K5_59 rfl) <| And.intro (loopK K5_59 K5_60 rfl) <| And.intro (seqK K5_60 K5_61 K5_66 rfl) <| And.intro (seqK K5_61 K5_62 K5_63 rfl) <| And.intro (regK K5_62 A5_62 rfl) <| And.intro (nilK A5_62 4 rfl) <| And.intro (opS A5_62 0 1 rfl rfl rfl) <| And.intro (opS A5_62 1 2 rfl rfl rfl) <| And.intro (opS A5_62 2 3 rfl rfl rfl) <| And.intro (opS A5_62 3 4 rfl rfl rfl) <| And.intro (condK K5_63 K5_64 K5_65 rfl) <| And.intro (skipK K5_64 rfl) <| And.intro (exitK K5_65 rfl) <| And.intro (seqK K5_66 K5_67 K5_75 rfl) <| And.intro (blkK K5_67 K5_68 rfl) <| And.intro (seqK K5_68 K5_69 K5_70 rfl) <| And.intro (nilX A5_69 8 rfl) <| And.intro (opSX A5_69 0 1 true rfl rfl rfl rfl) <| And.intro (opSX A5_69 1 2 false rfl rfl rfl rfl) <| And.intro (opSX A5_69 2 3 true rfl rfl rfl rfl) <| And.intro (opSX A5_69 3 4 true rfl rfl rfl rfl) <| And.intro (opSX A5_69 4 5 true rfl rfl rfl rfl) <| And.intro (opSX A5_69 5 6 true rfl rfl rfl rfl) <| And.intro (opSX A5_69 6 7 false rfl rfl rfl rfl) <| And.intro (opSX A5_69 7 8 true rfl rfl rfl rfl) <| And.intro (condK K5_70 K5_71 K5_74 rfl) <| And.intro (seqK K5_71 K5_72 K5_73 rfl) <| And.intro (regK K5_72 A5_72 rfl) <| And.intro (nilK A5_72 1 rfl) <| And.intro (opS A5_72 0 1 rfl rfl rfl) <| And.intro (retK K5_73 rfl) <| And.intro (skipK K5_74 rfl) <| And.intro (regK K5_75 A5_75 rfl) <| And.intro (nilK A5_75 3 rfl) <| And.intro (opS A5_75 0 1 rfl rfl rfl) <| And.intro (opS A5_75 1 2 rfl rfl rfl) <| opS A5_75 2 3 rfl rfl rfl)
theorem code5_4 : type_of% xcode5_4.down := xcode5_4.down
noncomputable def xcode5_5 := PLift.up (And.intro (seqK K5_76 K5_77 K5_78 rfl) <| And.intro (regK K5_77 A5_77 rfl) <| And.intro (nilK A5_77 22 rfl) <| And.intro (opS A5_77 0 1 rfl rfl rfl) <| And.intro (opS A5_77 1 2 rfl rfl rfl) <| And.intro (opS A5_77 2 3 rfl rfl rfl) <| And.intro (opS A5_77 3 4 rfl rfl rfl) <| And.intro (opS A5_77 4 5 rfl rfl rfl) <| And.intro (opS A5_77 5 6 rfl rfl rfl) <| And.intro (opS A5_77 6 7 rfl rfl rfl) <| And.intro (opS A5_77 7 8 rfl rfl rfl) <| And.intro (opS A5_77 8 9 rfl rfl rfl) <| And.intro (opS A5_77 9 10 rfl rfl rfl) <| And.intro (opSG A5_77 10 11 rfl rfl rfl rfl) <| And.intro (opSG A5_77 11 12 rfl rfl rfl rfl) <| And.intro (opSG A5_77 12 13 rfl rfl rfl rfl) <| And.intro (opSG A5_77 13 14 rfl rfl rfl rfl) <| And.intro (opSG A5_77 14 15 rfl rfl rfl rfl) <| And.intro (opSG A5_77 15 16 rfl rfl rfl rfl) <| And.intro (opSG A5_77 16 17 rfl rfl rfl rfl) <| And.intro (opSG A5_77 17 18 rfl rfl rfl rfl) <| And.intro (opSG A5_77 18 19 rfl rfl rfl rfl) <| And.intro (opSG A5_77 19 20 rfl rfl rfl rfl) <| And.intro (opS A5_77 20 21 rfl rfl rfl) <| And.intro (opS A5_77 21 22 rfl rfl rfl) <| retK K5_78 rfl)
theorem code5_5 : type_of% xcode5_5.down := xcode5_5.down
noncomputable def xty5 := PLift.up (And.intro @bs81 <| And.intro @ix23 <| And.intro @ld39 <| And.intro @ln23 <| @fi5)
theorem ty5 : type_of% xty5.down := xty5.down




end Go.Proofs.Ytompindebndddaa
