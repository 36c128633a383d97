/- The code of some functions, node by node, for simp. Written by a program (mkcode.py). No condition. -/
import Derived.Test.YtompindebndddaaG19
import Derived.Test.YtompindebndddaaG14
import Derived.KernelRfl
import Derived.Test.YtompindebndddaaG22
import Derived.Test.YtompindebndddaaG25
namespace Go.Proofs.Ytompindebndddaa
open Go.Am
set_option linter.unusedSimpArgs false
set_option linter.unusedVariables false
set_option maxRecDepth 100000
set_option maxHeartbeats 0
theorem sty60 : srcTyA tab 60 60 = true := by kernel_rfl
theorem cell_a0 (a : AtomD) : a.cells[0]? = some (.string a.says) := rfl
theorem cell_a1 (a : AtomD) : a.cells[1]? = some (.string a.pred) := rfl
end Go.Proofs.Ytompindebndddaa
namespace Go.Proofs.Ytompindebndddaa
open Go.Am
set_option linter.unusedVariables false
set_option linter.unusedSimpArgs false
set_option maxRecDepth 100000
set_option maxHeartbeats 0
noncomputable def N165 := nodeF Try.f165
noncomputable def x165 := PLift.up (by have c := factsOf N165 Try.f165; simp only [codeOf, Try.f165, Option.getD_some, factsF, opsF, opsX, ncount, wantG, dstL, quietS, List.append_eq, List.cons_append, List.nil_append, seval] at c; exact nd c <| nd @fa39_2 <| nd @ld3 <| @fi165)
theorem c165 : type_of% x165.down := x165.down
noncomputable def N158 := nodeF Try.f158
noncomputable def x158 := PLift.up (by have c := factsOf N158 Try.f158; simp only [codeOf, Try.f158, Option.getD_some, factsF, opsF, opsX, ncount, wantG, dstL, quietS, List.append_eq, List.cons_append, List.nil_append, seval] at c; exact nd c <| nd @fa36_1 <| nd @fa39_1 <| nd @fa39_3 <| nd @ix37 <| nd @ld39 <| nd @ld9 <| @fi158)
theorem c158 : type_of% x158.down := x158.down
noncomputable def N115 := nodeF Try.f115
noncomputable def x115 := PLift.up (by have c := factsOf N115 Try.f115; simp only [codeOf, Try.f115, Option.getD_some, factsF, opsF, opsX, ncount, wantG, dstL, quietS, List.append_eq, List.cons_append, List.nil_append, seval] at c; exact nd c <| nd @fa39_0 <| nd @ld39 <| nd @ld9 <| @fi115)
theorem c115 : type_of% x115.down := x115.down
noncomputable def N51 := nodeF Try.f51
noncomputable def x51 := PLift.up (by have c := factsOf N51 Try.f51; simp only [codeOf, Try.f51, Option.getD_some, factsF, opsF, opsX, ncount, wantG, dstL, quietS, List.append_eq, List.cons_append, List.nil_append, seval] at c; exact nd c <| nd @ld39 <| @fi51)
theorem c51 : type_of% x51.down := x51.down
noncomputable def N20 := nodeF Try.f20
noncomputable def x20 := PLift.up (by have c := factsOf N20 Try.f20; simp only [codeOf, Try.f20, Option.getD_some, factsF, opsF, opsX, ncount, wantG, dstL, quietS, List.append_eq, List.cons_append, List.nil_append, seval] at c; exact nd c <| nd @ix23 <| nd @ld39 <| nd @ln23 <| @fi20)
theorem c20 : type_of% x20.down := x20.down
noncomputable def N50 := nodeF Try.f50
noncomputable def x50 := PLift.up (by have c := factsOf N50 Try.f50; simp only [codeOf, Try.f50, Option.getD_some, factsF, opsF, opsX, ncount, wantG, dstL, quietS, List.append_eq, List.cons_append, List.nil_append, seval] at c; exact nd c <| nd @bs23 <| nd @ix23 <| nd @ld39 <| nd @ln23 <| @fi50)
theorem c50 : type_of% x50.down := x50.down
noncomputable def N9 := nodeF Try.f9
noncomputable def x9 := PLift.up (by have c := factsOf N9 Try.f9; simp only [codeOf, Try.f9, Option.getD_some, factsF, opsF, opsX, ncount, wantG, dstL, quietS, List.append_eq, List.cons_append, List.nil_append, seval] at c; exact nd c <| nd @bs81 <| nd @ix23 <| nd @ld39 <| nd @ln23 <| @fi9)
end Go.Proofs.Ytompindebndddaa
