/- The code of some functions, node by node, for simp. Written by a program (mkcode.py). No condition. -/
import Derived.Test.YtompindebndddaaG19
import Derived.Test.YtompindebndddaaG14
import Derived.KernelRfl
namespace Go.Proofs.Ytompindebndddaa
open Go.Am
set_option linter.unusedVariables false
set_option maxRecDepth 100000




noncomputable def K136_0 : Code := Try.f136.body.getD .skip
noncomputable def K136_1 : Code := lft K136_0
noncomputable def A136_1 : Array Oper := rops K136_1
noncomputable def K136_2 : Code := rgt K136_0
noncomputable def K136_3 : Code := lft K136_2
noncomputable def A136_3 : Array Oper := rops K136_3
noncomputable def K136_4 : Code := rgt K136_2
theorem body136 : Try.f136.body = some K136_0 := by kernel_rfl
noncomputable def xcode136_0 := PLift.up (And.intro (seqK K136_0 K136_1 K136_2 rfl) <| And.intro (regK K136_1 A136_1 rfl) <| And.intro (nilK A136_1 2 rfl) <| And.intro (opS A136_1 0 1 rfl rfl rfl) <| And.intro (opS A136_1 1 2 rfl rfl rfl) <| And.intro (seqK K136_2 K136_3 K136_4 rfl) <| And.intro (regK K136_3 A136_3 rfl) <| And.intro (nilK A136_3 7 rfl) <| And.intro (opS A136_3 0 1 rfl rfl rfl) <| And.intro (opS A136_3 1 2 rfl rfl rfl) <| And.intro (opS A136_3 2 3 rfl rfl rfl) <| And.intro (opS A136_3 3 4 rfl rfl rfl) <| And.intro (opS A136_3 4 5 rfl rfl rfl) <| And.intro (opS A136_3 5 6 rfl rfl rfl) <| And.intro (opS A136_3 6 7 rfl rfl rfl) <| retK K136_4 rfl)
theorem code136_0 : type_of% xcode136_0.down := xcode136_0.down
noncomputable def xty136 := PLift.up (And.intro @fa39_2 <| And.intro @fa39_3 <| And.intro @ld3 <| @fi136)
theorem ty136 : type_of% xty136.down := xty136.down








end Go.Proofs.Ytompindebndddaa
