/- Walks: what is gone through, on; clauses. Written out by fill2.py. No condition. -/
import Derived.Test.YtompindebndddaaG37
import Derived.Test.YtompindebndddaaG30
import Derived.Test.YtompindebndddaaG27
import Derived.KernelRfl
namespace Go.Proofs.Ytompindebndddaa
open Go.Am
set_option linter.unusedVariables false
set_option linter.unusedSimpArgs false
set_option maxRecDepth 100000
set_option maxHeartbeats 0
noncomputable def N62 := nodeF Try.f62
noncomputable def x62 := PLift.up (by have c := factsOf N62 Try.f62; simp only [codeOf, Try.f62, Option.getD_some, factsF, opsF, opsX, ncount, wantG, dstL, quietS, List.append_eq, List.cons_append, List.nil_append, seval] at c; exact nd c <| nd @fa90_0 <| nd @fa90_2 <| nd @ix84 <| nd @ld32 <| nd @ld39 <| nd @ln32 <| nd @ln84 <| @fi62)
theorem c62 : type_of% x62.down := x62.down
noncomputable def N64 := nodeF Try.f64
noncomputable def x64 := PLift.up (by have c := factsOf N64 Try.f64; simp only [codeOf, Try.f64, Option.getD_some, factsF, opsF, opsX, ncount, wantG, dstL, quietS, List.append_eq, List.cons_append, List.nil_append, seval] at c; exact nd c <| nd @bs24 <| nd @fa41_0 <| nd @fa41_1 <| nd @fa41_2 <| nd @ix24 <| nd @ld23 <| nd @ld3 <| nd @ld39 <| nd @ln24 <| @fi64)
theorem c64 : type_of% x64.down := x64.down
noncomputable def N66 := nodeF Try.f66
noncomputable def x66 := PLift.up (by have c := factsOf N66 Try.f66; simp only [codeOf, Try.f66, Option.getD_some, factsF, opsF, opsX, ncount, wantG, dstL, quietS, List.append_eq, List.cons_append, List.nil_append, seval] at c; exact nd c <| nd @bs84 <| nd @fa90_0 <| nd @fa90_1 <| nd @fa90_2 <| nd @ix84 <| nd @ld3 <| nd @ld32 <| nd @ld39 <| nd @ln84 <| @fi66)
theorem c66 : type_of% x66.down := x66.down
noncomputable def N69 := nodeF Try.f69
noncomputable def x69 := PLift.up (by have c := factsOf N69 Try.f69; simp only [codeOf, Try.f69, Option.getD_some, factsF, opsF, opsX, ncount, wantG, dstL, quietS, List.append_eq, List.cons_append, List.nil_append, seval] at c; exact nd c <| nd @fa90_0 <| nd @fa90_1 <| nd @fa90_2 <| nd @ix84 <| nd @ld3 <| nd @ld32 <| nd @ld39 <| nd @ln84 <| @fi69)
theorem c69 : type_of% x69.down := x69.down
noncomputable def N70 := nodeF Try.f70
noncomputable def x70 := PLift.up (by have c := factsOf N70 Try.f70; simp only [codeOf, Try.f70, Option.getD_some, factsF, opsF, opsX, ncount, wantG, dstL, quietS, List.append_eq, List.cons_append, List.nil_append, seval] at c; exact nd c <| nd @fa41_0 <| nd @fa41_1 <| nd @fa41_2 <| nd @ix24 <| nd @ld23 <| nd @ld3 <| nd @ld39 <| nd @ln24 <| @fi70)
theorem c70 : type_of% x70.down := x70.down
noncomputable def N71 := nodeF Try.f71
noncomputable def x71 := PLift.up (by have c := factsOf N71 Try.f71; simp only [codeOf, Try.f71, Option.getD_some, factsF, opsF, opsX, ncount, wantG, dstL, quietS, List.append_eq, List.cons_append, List.nil_append, seval] at c; exact nd c <| nd @al90 <| nd @bs23 <| nd @fa90_0 <| nd @ix84 <| nd @ld39 <| nd @ld90 <| nd @ln84 <| @fi71)
theorem c71 : type_of% x71.down := x71.down
noncomputable def N63 := nodeF Try.f63
noncomputable def x63 := PLift.up (by have c := factsOf N63 Try.f63; simp only [codeOf, Try.f63, Option.getD_some, factsF, opsF, opsX, ncount, wantG, dstL, quietS, List.append_eq, List.cons_append, List.nil_append, seval] at c; exact nd c <| nd @bs23 <| nd @fa90_0 <| nd @ix84 <| nd @ld39 <| nd @ln84 <| @fi63)
theorem c63 : type_of% x63.down := x63.down
noncomputable def N127 := nodeF Try.f127
noncomputable def x127 := PLift.up (by have c := factsOf N127 Try.f127; simp only [codeOf, Try.f127, Option.getD_some, factsF, opsF, opsX, ncount, wantG, dstL, quietS, List.append_eq, List.cons_append, List.nil_append, seval] at c; exact nd c <| nd @bs32 <| @fi127)
theorem c127 : type_of% x127.down := x127.down
noncomputable def N125 := nodeF Try.f125
noncomputable def x125 := PLift.up (by have c := factsOf N125 Try.f125; simp only [codeOf, Try.f125, Option.getD_some, factsF, opsF, opsX, ncount, wantG, dstL, quietS, List.append_eq, List.cons_append, List.nil_append, seval] at c; exact nd c <| nd @fa41_0 <| nd @fa41_2 <| nd @ix24 <| nd @ld23 <| nd @ld39 <| nd @ln24 <| @fi125)
theorem c125 : type_of% x125.down := x125.down
noncomputable def N163 := nodeF Try.f163
noncomputable def x163 := PLift.up (by have c := factsOf N163 Try.f163; simp only [codeOf, Try.f163, Option.getD_some, factsF, opsF, opsX, ncount, wantG, dstL, quietS, List.append_eq, List.cons_append, List.nil_append, seval] at c; exact nd c <| nd @ix23 <| nd @ld39 <| nd @ln23 <| @fi163)
theorem c163 : type_of% x163.down := x163.down
noncomputable def N126 := nodeF Try.f126
noncomputable def x126 := PLift.up (by have c := factsOf N126 Try.f126; simp only [codeOf, Try.f126, Option.getD_some, factsF, opsF, opsX, ncount, wantG, dstL, quietS, List.append_eq, List.cons_append, List.nil_append, seval] at c; exact nd c <| nd @bs23 <| nd @fa41_2 <| nd @ix23 <| nd @ix24 <| nd @ld23 <| nd @ld39 <| nd @ln23 <| @fi126)
theorem c126 : type_of% x126.down := x126.down
noncomputable def N65 := nodeF Try.f65
noncomputable def x65 := PLift.up (by have c := factsOf N65 Try.f65; simp only [codeOf, Try.f65, Option.getD_some, factsF, opsF, opsX, ncount, wantG, dstL, quietS, List.append_eq, List.cons_append, List.nil_append, seval] at c; exact nd c <| nd @al90 <| nd @bs32 <| nd @bs84 <| nd @fa41_0 <| nd @fa41_1 <| nd @fa41_2 <| nd @fa90_2 <| nd @ix23 <| nd @ix24 <| nd @ld23 <| nd @ld3 <| nd @ld32 <| nd @ld39 <| nd @ld90 <| nd @ln23 <| nd @ln24 <| @fi65)
theorem c65 : type_of% x65.down := x65.down
noncomputable def N128 := nodeF Try.f128
noncomputable def x128 := PLift.up (by have c := factsOf N128 Try.f128; simp only [codeOf, Try.f128, Option.getD_some, factsF, opsF, opsX, ncount, wantG, dstL, quietS, List.append_eq, List.cons_append, List.nil_append, seval] at c; exact nd c <| nd @fa90_2 <| nd @ix32 <| nd @ix84 <| nd @ld3 <| nd @ld32 <| nd @ln32 <| nd @ln84 <| @fi128)
theorem c128 : type_of% x128.down := x128.down
noncomputable def N67 := nodeF Try.f67
noncomputable def x67 := PLift.up (by have c := factsOf N67 Try.f67; simp only [codeOf, Try.f67, Option.getD_some, factsF, opsF, opsX, ncount, wantG, dstL, quietS, List.append_eq, List.cons_append, List.nil_append, seval] at c; exact nd c <| nd @al41 <| nd @bs23 <| nd @bs24 <| nd @fa41_2 <| nd @fa90_0 <| nd @fa90_1 <| nd @fa90_2 <| nd @ix32 <| nd @ix84 <| nd @ld23 <| nd @ld3 <| nd @ld32 <| nd @ld39 <| nd @ld41 <| nd @ln32 <| nd @ln84 <| @fi67)
theorem c67 : type_of% x67.down := x67.down
noncomputable def N68 := nodeF Try.f68
noncomputable def x68 := PLift.up (by have c := factsOf N68 Try.f68; simp only [codeOf, Try.f68, Option.getD_some, factsF, opsF, opsX, ncount, wantG, dstL, quietS, List.append_eq, List.cons_append, List.nil_append, seval] at c; exact nd c <| @fi68)
theorem c68 : type_of% x68.down := x68.down
noncomputable def N72 := nodeF Try.f72
noncomputable def x72 := PLift.up (by have c := factsOf N72 Try.f72; simp only [codeOf, Try.f72, Option.getD_some, factsF, opsF, opsX, ncount, wantG, dstL, quietS, List.append_eq, List.cons_append, List.nil_append, seval] at c; exact nd c <| nd @fa90_0 <| nd @ix84 <| nd @ld39 <| nd @ln84 <| @fi72)
theorem c72 : type_of% x72.down := x72.down
noncomputable def N73 := nodeF Try.f73
noncomputable def x73 := PLift.up (by have c := factsOf N73 Try.f73; simp only [codeOf, Try.f73, Option.getD_some, factsF, opsF, opsX, ncount, wantG, dstL, quietS, List.append_eq, List.cons_append, List.nil_append, seval] at c; exact nd c <| nd @fa90_0 <| nd @fa90_1 <| nd @fa90_2 <| nd @ix32 <| nd @ix84 <| nd @ld3 <| nd @ld32 <| nd @ld39 <| nd @ln32 <| nd @ln84 <| @fi73)
theorem c73 : type_of% x73.down := x73.down
noncomputable def N12 := nodeF Try.f12
noncomputable def x12 := PLift.up (by have c := factsOf N12 Try.f12; simp only [codeOf, Try.f12, Option.getD_some, factsF, opsF, opsX, ncount, wantG, dstL, quietS, List.append_eq, List.cons_append, List.nil_append, seval] at c; exact nd c <| nd @ld39 <| @fi12)
theorem c12 : type_of% x12.down := x12.down
noncomputable def N17 := nodeF Try.f17
noncomputable def x17 := PLift.up (by have c := factsOf N17 Try.f17; simp only [codeOf, Try.f17, Option.getD_some, factsF, opsF, opsX, ncount, wantG, dstL, quietS, List.append_eq, List.cons_append, List.nil_append, seval] at c; exact nd c <| nd @al103 <| nd @al41 <| nd @fa41_0 <| nd @fa41_2 <| nd @ix24 <| nd @ld103 <| nd @ld23 <| nd @ld39 <| nd @ld41 <| nd @ln24 <| @fi17)
noncomputable def N19 := nodeF Try.f19
noncomputable def x19 := PLift.up (by have c := factsOf N19 Try.f19; simp only [codeOf, Try.f19, Option.getD_some, factsF, opsF, opsX, ncount, wantG, dstL, quietS, List.append_eq, List.cons_append, List.nil_append, seval] at c; exact nd c <| nd @al39 <| nd @al41 <| nd @fa41_2 <| nd @ix23 <| nd @ix24 <| nd @ix32 <| nd @ld23 <| nd @ld3 <| nd @ld39 <| nd @ld41 <| nd @ln23 <| nd @ln24 <| @fi19)
noncomputable def N25 := nodeF Try.f25
noncomputable def x25 := PLift.up (by have c := factsOf N25 Try.f25; simp only [codeOf, Try.f25, Option.getD_some, factsF, opsF, opsX, ncount, wantG, dstL, quietS, List.append_eq, List.cons_append, List.nil_append, seval] at c; exact nd c <| nd @ix32 <| nd @ld3 <| nd @ln32 <| @fi25)
theorem c25 : type_of% x25.down := x25.down
noncomputable def N4 := nodeF Try.f4
noncomputable def x4 := PLift.up (by have c := factsOf N4 Try.f4; simp only [codeOf, Try.f4, Option.getD_some, factsF, opsF, opsX, ncount, wantG, dstL, quietS, List.append_eq, List.cons_append, List.nil_append, seval] at c; exact nd c <| nd @bs22 <| nd @ld47 <| nd @ln24 <| nd @ln32 <| @fi4)
theorem c4 : type_of% x4.down := x4.down
end Go.Proofs.Ytompindebndddaa
