/- The code of some functions, node by node, for simp. Written by a program (mkcode.py). No condition. -/
import Derived.Test.YtompindebndddaaG19
import Derived.Test.YtompindebndddaaG14
import Derived.KernelRfl
import Derived.Test.YtompindebndddaaG22
namespace Go.Proofs.Ytompindebndddaa
open Go.Am
set_option linter.unusedVariables false
set_option linter.unusedSimpArgs false
set_option maxRecDepth 100000
set_option maxHeartbeats 0
noncomputable def N203 := nodeF Try.f203
noncomputable def x203 := PLift.up (by have c := factsOf N203 Try.f203; simp only [codeOf, Try.f203, Option.getD_some, factsF, opsF, opsX, ncount, wantG, dstL, quietS, List.append_eq, List.cons_append, List.nil_append, seval] at c; exact nd c <| nd @fa192_0 <| nd @ix162 <| nd @ld9 <| nd @ln162 <| @fi203)
theorem c203 : type_of% x203.down := x203.down
noncomputable def N204 := nodeF Try.f204
noncomputable def x204 := PLift.up (by have c := factsOf N204 Try.f204; simp only [codeOf, Try.f204, Option.getD_some, factsF, opsF, opsX, ncount, wantG, dstL, quietS, List.append_eq, List.cons_append, List.nil_append, seval] at c; exact nd c <| @fi204)
theorem c204 : type_of% x204.down := x204.down
noncomputable def N205 := nodeF Try.f205
noncomputable def x205 := PLift.up (by have c := factsOf N205 Try.f205; simp only [codeOf, Try.f205, Option.getD_some, factsF, opsF, opsX, ncount, wantG, dstL, quietS, List.append_eq, List.cons_append, List.nil_append, seval] at c; exact nd c <| nd @fa192_0 <| nd @ix162 <| nd @ld162 <| nd @ld9 <| @fi205)
theorem c205 : type_of% x205.down := x205.down
noncomputable def N171 := nodeF Try.f171
noncomputable def x171 := PLift.up (by have c := factsOf N171 Try.f171; simp only [codeOf, Try.f171, Option.getD_some, factsF, opsF, opsX, ncount, wantG, dstL, quietS, List.append_eq, List.cons_append, List.nil_append, seval] at c; exact nd c <| nd @al36 <| nd @fa192_0 <| nd @fa192_1 <| nd @ix162 <| nd @ld162 <| nd @ld36 <| nd @ld9 <| nd @ln162 <| @fi171)
theorem c171 : type_of% x171.down := x171.down
noncomputable def N169 := nodeF Try.f169
noncomputable def x169 := PLift.up (by have c := factsOf N169 Try.f169; simp only [codeOf, Try.f169, Option.getD_some, factsF, opsF, opsX, ncount, wantG, dstL, quietS, List.append_eq, List.cons_append, List.nil_append, seval] at c; exact nd c <| nd @al192 <| nd @al36 <| nd @fa192_1 <| nd @fa36_0 <| nd @fa36_1 <| nd @ix162 <| nd @ld192 <| nd @ld4 <| nd @ld9 <| nd @ln162 <| @fi169)
theorem c169 : type_of% x169.down := x169.down
noncomputable def N206 := nodeF Try.f206
noncomputable def x206 := PLift.up (by have c := factsOf N206 Try.f206; simp only [codeOf, Try.f206, Option.getD_some, factsF, opsF, opsX, ncount, wantG, dstL, quietS, List.append_eq, List.cons_append, List.nil_append, seval] at c; exact nd c <| nd @al36 <| nd @fa36_0 <| nd @fa36_1 <| nd @ld36 <| nd @ld4 <| nd @ld9 <| @fi206)
theorem c206 : type_of% x206.down := x206.down
noncomputable def N207 := nodeF Try.f207
noncomputable def x207 := PLift.up (by have c := factsOf N207 Try.f207; simp only [codeOf, Try.f207, Option.getD_some, factsF, opsF, opsX, ncount, wantG, dstL, quietS, List.append_eq, List.cons_append, List.nil_append, seval] at c; exact nd c <| nd @fa192_0 <| nd @fa192_1 <| nd @fa36_0 <| nd @fa36_1 <| nd @ld4 <| nd @ld9 <| @fi207)
theorem c207 : type_of% x207.down := x207.down
noncomputable def N208 := nodeF Try.f208
noncomputable def x208 := PLift.up (by have c := factsOf N208 Try.f208; simp only [codeOf, Try.f208, Option.getD_some, factsF, opsF, opsX, ncount, wantG, dstL, quietS, List.append_eq, List.cons_append, List.nil_append, seval] at c; exact nd c <| nd @bs162 <| nd @ld162 <| nd @ld192 <| nd @ln162 <| @fi208)
theorem c208 : type_of% x208.down := x208.down
noncomputable def N222 := nodeF Try.f222
noncomputable def x222 := PLift.up (by have c := factsOf N222 Try.f222; simp only [codeOf, Try.f222, Option.getD_some, factsF, opsF, opsX, ncount, wantG, dstL, quietS, List.append_eq, List.cons_append, List.nil_append, seval] at c; exact nd c <| nd @fa192_0 <| nd @ix162 <| nd @ld162 <| nd @ld9 <| @fi222)
theorem c222 : type_of% x222.down := x222.down
noncomputable def N209 := nodeF Try.f209
noncomputable def x209 := PLift.up (by have c := factsOf N209 Try.f209; simp only [codeOf, Try.f209, Option.getD_some, factsF, opsF, opsX, ncount, wantG, dstL, quietS, List.append_eq, List.cons_append, List.nil_append, seval] at c; exact nd c <| nd @al192 <| nd @bs162 <| nd @fa192_0 <| nd @fa192_1 <| nd @ix162 <| nd @ld192 <| nd @ld36 <| nd @ld9 <| nd @ln162 <| @fi209)
theorem c209 : type_of% x209.down := x209.down
noncomputable def N173 := nodeF Try.f173
noncomputable def x173 := PLift.up (by have c := factsOf N173 Try.f173; simp only [codeOf, Try.f173, Option.getD_some, factsF, opsF, opsX, ncount, wantG, dstL, quietS, List.append_eq, List.cons_append, List.nil_append, seval] at c; exact nd c <| nd @al192 <| nd @al36 <| nd @bs162 <| nd @fa36_1 <| nd @ld192 <| nd @ld36 <| nd @ld9 <| @fi173)
theorem c173 : type_of% x173.down := x173.down
noncomputable def N170 := nodeF Try.f170
noncomputable def x170 := PLift.up (by have c := factsOf N170 Try.f170; simp only [codeOf, Try.f170, Option.getD_some, factsF, opsF, opsX, ncount, wantG, dstL, quietS, List.append_eq, List.cons_append, List.nil_append, seval] at c; exact nd c <| nd @fa39_0 <| nd @fa39_1 <| nd @fa39_2 <| nd @ld3 <| nd @ld9 <| @fi170)
theorem c170 : type_of% x170.down := x170.down
noncomputable def N140 := nodeF Try.f140
noncomputable def x140 := PLift.up (by have c := factsOf N140 Try.f140; simp only [codeOf, Try.f140, Option.getD_some, factsF, opsF, opsX, ncount, wantG, dstL, quietS, List.append_eq, List.cons_append, List.nil_append, seval] at c; exact nd c <| nd @al36 <| nd @fa36_0 <| nd @fa36_1 <| nd @fa39_2 <| nd @fa39_3 <| nd @ix37 <| nd @ld3 <| nd @ld36 <| nd @ld37 <| nd @ld39 <| nd @ld4 <| nd @ld9 <| @fi140)
theorem c140 : type_of% x140.down := x140.down
noncomputable def N139 := nodeF Try.f139
noncomputable def x139 := PLift.up (by have c := factsOf N139 Try.f139; simp only [codeOf, Try.f139, Option.getD_some, factsF, opsF, opsX, ncount, wantG, dstL, quietS, List.append_eq, List.cons_append, List.nil_append, seval] at c; exact nd c <| nd @ld39 <| @fi139)
theorem c139 : type_of% x139.down := x139.down
noncomputable def N82 := nodeF Try.f82
noncomputable def x82 := PLift.up (by have c := factsOf N82 Try.f82; simp only [codeOf, Try.f82, Option.getD_some, factsF, opsF, opsX, ncount, wantG, dstL, quietS, List.append_eq, List.cons_append, List.nil_append, seval] at c; exact nd c <| nd @al39 <| nd @fa47_0 <| nd @fa47_1 <| nd @ix23 <| nd @ld23 <| nd @ld39 <| nd @ln23 <| @fi82)
theorem c82 : type_of% x82.down := x82.down
noncomputable def N21 := nodeF Try.f21
noncomputable def x21 := PLift.up (by have c := factsOf N21 Try.f21; simp only [codeOf, Try.f21, Option.getD_some, factsF, opsF, opsX, ncount, wantG, dstL, quietS, List.append_eq, List.cons_append, List.nil_append, seval] at c; exact nd c <| nd @fa41_0 <| nd @fa41_1 <| nd @fa41_2 <| nd @ix22 <| nd @ld23 <| nd @ld3 <| nd @ld39 <| nd @ld47 <| nd @ln22 <| nd @ln23 <| @fi21)
theorem c21 : type_of% x21.down := x21.down
noncomputable def N172 := nodeF Try.f172
noncomputable def x172 := PLift.up (by have c := factsOf N172 Try.f172; simp only [codeOf, Try.f172, Option.getD_some, factsF, opsF, opsX, ncount, wantG, dstL, quietS, List.append_eq, List.cons_append, List.nil_append, seval] at c; exact nd c <| nd @bs162 <| @fi172)
theorem c172 : type_of% x172.down := x172.down
end Go.Proofs.Ytompindebndddaa
namespace Go.Proofs.Ytompindebndddaa
open Go.Am
set_option linter.unusedSimpArgs false
set_option linter.unusedVariables false
set_option maxRecDepth 100000
theorem pure_iu (a : Int) : pureRun Try.prog (Next.value <$> convert 3 176 (.int .i64 a)) = some (Next.value (.int .u64 (IntKind.u64.wrap a))) := by rfl
theorem pure_ui (a : Int) : pureRun Try.prog (Next.value <$> convert 176 3 (.int .u64 a)) = some (Next.value (.int .i64 (IntKind.i64.wrap a))) := by rfl
theorem bin_shr {T : Tab} {t : TypeId} {k kd : IntKind} {a b : Int} (hb : ¬ b < 0) : binA Try.prog T .shr t (.int k a) (.int kd b) = some (.int k (a.fdiv (2 ^ (min b.toNat k.bits)))) := by
  have h1 : ((T.desc t).bind fun d => eqNil d (.int k a) (.int kd b)) = none := by
    cases T.desc t with
    | none => rfl
    | some d => cases d <;> rfl
  have h2 : pureRun Try.prog (binOp .shr t (.int k a) (.int kd b)) = some (.int k (a.fdiv (2 ^ (min b.toNat k.bits)))) := by
    simp [binOp, Op.shift, hb, pr_pure]
  unfold binA
  have hf : binFast .shr (.int k a) (.int kd b) = none := rfl
  rw [hf]
  simp [h1, h2]
  exact ⟨⟨rfl, rfl⟩, rfl⟩
theorem w_conv {d} {s t ty : TypeId} {x : Operand} {pos af g} {kk : IntKind} {a : Int} {v : Value} {e : Env} {h : Heap} {K : Value → Heap → Prop} (hs : isSlice tab s = false) (ht : isSlice tab t = false) (hx : evalOperand e x = .int kk a) (hc : pureRun Try.prog (Next.value <$> convert s t (.int kk a)) = some (Next.value v)) (hv : plain v = true) : WOp Try.prog tab ov ⟨d, .convert s t x, ty, pos, af, g⟩ e h K = K v h := by
  rw [w_convert d ty pos af g e h K s t x hs ht]
  have hp : pureOp Try.prog e ⟨d, .convert s t x, ty, pos, af, g⟩ h = some (v, h) := by
    unfold pureOp
    simp [Op.operands, hx, execOp]
    refine ⟨rfl, ?_⟩
    rw [hc]
    simp [hv]
  rw [hp]
  rfl
end Go.Proofs.Ytompindebndddaa
