/- The code of some functions, node by node, for simp. Written by a program (mkcode.py). No condition. -/
import Derived.Test.YtemapihoobmonaaDoorG18
import Derived.Test.YtemapihoobmonaaDoorG15
import Derived.KernelRfl
import Derived.Test.YtemapihoobmonaaDoorG20
namespace Go.Proofs.YtemapihoobmonaaDoor
open Go.Am
set_option linter.unusedVariables false
set_option linter.unusedSimpArgs false
set_option maxRecDepth 100000
set_option maxHeartbeats 0
noncomputable def N54 := nodeF Tryd.f54
noncomputable def x54 := PLift.up (by have c := factsOf N54 Tryd.f54; simp only [codeOf, Tryd.f54, Option.getD_some, factsF, opsF, opsX, ncount, wantG, dstL, quietS, List.append_eq, List.cons_append, List.nil_append, seval] at c; exact nd c <| nd @fa71_0 <| nd @ix51 <| nd @ld9 <| nd @ln51 <| @fi54)
theorem c54 : type_of% x54.down := x54.down
noncomputable def N55 := nodeF Tryd.f55
noncomputable def x55 := PLift.up (by have c := factsOf N55 Tryd.f55; simp only [codeOf, Tryd.f55, Option.getD_some, factsF, opsF, opsX, ncount, wantG, dstL, quietS, List.append_eq, List.cons_append, List.nil_append, seval] at c; exact nd c <| @fi55)
theorem c55 : type_of% x55.down := x55.down
noncomputable def N56 := nodeF Tryd.f56
noncomputable def x56 := PLift.up (by have c := factsOf N56 Tryd.f56; simp only [codeOf, Tryd.f56, Option.getD_some, factsF, opsF, opsX, ncount, wantG, dstL, quietS, List.append_eq, List.cons_append, List.nil_append, seval] at c; exact nd c <| nd @fa71_0 <| nd @ix51 <| nd @ld51 <| nd @ld9 <| @fi56)
theorem c56 : type_of% x56.down := x56.down
noncomputable def N39 := nodeF Tryd.f39
noncomputable def x39 := PLift.up (by have c := factsOf N39 Tryd.f39; simp only [codeOf, Tryd.f39, Option.getD_some, factsF, opsF, opsX, ncount, wantG, dstL, quietS, List.append_eq, List.cons_append, List.nil_append, seval] at c; exact nd c <| nd @al33 <| nd @fa71_0 <| nd @fa71_1 <| nd @ix51 <| nd @ld33 <| nd @ld51 <| nd @ld9 <| nd @ln51 <| @fi39)
theorem c39 : type_of% x39.down := x39.down
noncomputable def N37 := nodeF Tryd.f37
noncomputable def x37 := PLift.up (by have c := factsOf N37 Tryd.f37; simp only [codeOf, Tryd.f37, Option.getD_some, factsF, opsF, opsX, ncount, wantG, dstL, quietS, List.append_eq, List.cons_append, List.nil_append, seval] at c; exact nd c <| nd @al33 <| nd @al71 <| nd @fa33_0 <| nd @fa33_1 <| nd @fa71_1 <| nd @ix51 <| nd @ld4 <| nd @ld71 <| nd @ld9 <| nd @ln51 <| @fi37)
theorem c37 : type_of% x37.down := x37.down
noncomputable def N27 := nodeF Tryd.f27
noncomputable def x27 := PLift.up (by have c := factsOf N27 Tryd.f27; simp only [codeOf, Tryd.f27, Option.getD_some, factsF, opsF, opsX, ncount, wantG, dstL, quietS, List.append_eq, List.cons_append, List.nil_append, seval] at c; exact nd c <| nd @al33 <| nd @fa33_0 <| nd @fa33_1 <| nd @ld33 <| nd @ld4 <| nd @ld9 <| @fi27)
theorem c27 : type_of% x27.down := x27.down
noncomputable def N57 := nodeF Tryd.f57
noncomputable def x57 := PLift.up (by have c := factsOf N57 Tryd.f57; simp only [codeOf, Tryd.f57, Option.getD_some, factsF, opsF, opsX, ncount, wantG, dstL, quietS, List.append_eq, List.cons_append, List.nil_append, seval] at c; exact nd c <| nd @fa33_0 <| nd @fa33_1 <| nd @fa71_0 <| nd @fa71_1 <| nd @ld4 <| nd @ld9 <| @fi57)
theorem c57 : type_of% x57.down := x57.down
noncomputable def N58 := nodeF Tryd.f58
noncomputable def x58 := PLift.up (by have c := factsOf N58 Tryd.f58; simp only [codeOf, Tryd.f58, Option.getD_some, factsF, opsF, opsX, ncount, wantG, dstL, quietS, List.append_eq, List.cons_append, List.nil_append, seval] at c; exact nd c <| nd @bs51 <| nd @ld51 <| nd @ld71 <| nd @ln51 <| @fi58)
theorem c58 : type_of% x58.down := x58.down
noncomputable def N72 := nodeF Tryd.f72
noncomputable def x72 := PLift.up (by have c := factsOf N72 Tryd.f72; simp only [codeOf, Tryd.f72, Option.getD_some, factsF, opsF, opsX, ncount, wantG, dstL, quietS, List.append_eq, List.cons_append, List.nil_append, seval] at c; exact nd c <| nd @fa71_0 <| nd @ix51 <| nd @ld51 <| nd @ld9 <| @fi72)
theorem c72 : type_of% x72.down := x72.down
noncomputable def N59 := nodeF Tryd.f59
noncomputable def x59 := PLift.up (by have c := factsOf N59 Tryd.f59; simp only [codeOf, Tryd.f59, Option.getD_some, factsF, opsF, opsX, ncount, wantG, dstL, quietS, List.append_eq, List.cons_append, List.nil_append, seval] at c; exact nd c <| nd @al71 <| nd @bs51 <| nd @fa71_0 <| nd @fa71_1 <| nd @ix51 <| nd @ld33 <| nd @ld71 <| nd @ld9 <| nd @ln51 <| @fi59)
theorem c59 : type_of% x59.down := x59.down
noncomputable def N41 := nodeF Tryd.f41
noncomputable def x41 := PLift.up (by have c := factsOf N41 Tryd.f41; simp only [codeOf, Tryd.f41, Option.getD_some, factsF, opsF, opsX, ncount, wantG, dstL, quietS, List.append_eq, List.cons_append, List.nil_append, seval] at c; exact nd c <| nd @al33 <| nd @al71 <| nd @bs51 <| nd @fa33_1 <| nd @ld33 <| nd @ld71 <| nd @ld9 <| @fi41)
theorem c41 : type_of% x41.down := x41.down
noncomputable def N38 := nodeF Tryd.f38
noncomputable def x38 := PLift.up (by have c := factsOf N38 Tryd.f38; simp only [codeOf, Tryd.f38, Option.getD_some, factsF, opsF, opsX, ncount, wantG, dstL, quietS, List.append_eq, List.cons_append, List.nil_append, seval] at c; exact nd c <| nd @fa36_0 <| nd @fa36_1 <| nd @fa36_2 <| nd @ld3 <| nd @ld9 <| @fi38)
theorem c38 : type_of% x38.down := x38.down
noncomputable def N26 := nodeF Tryd.f26
noncomputable def x26 := PLift.up (by have c := factsOf N26 Tryd.f26; simp only [codeOf, Tryd.f26, Option.getD_some, factsF, opsF, opsX, ncount, wantG, dstL, quietS, List.append_eq, List.cons_append, List.nil_append, seval] at c; exact nd c <| nd @al33 <| nd @fa33_0 <| nd @fa33_1 <| nd @fa36_2 <| nd @fa36_3 <| nd @ix34 <| nd @ld3 <| nd @ld33 <| nd @ld34 <| nd @ld36 <| nd @ld4 <| nd @ld9 <| @fi26)
theorem c26 : type_of% x26.down := x26.down
noncomputable def N40 := nodeF Tryd.f40
noncomputable def x40 := PLift.up (by have c := factsOf N40 Tryd.f40; simp only [codeOf, Tryd.f40, Option.getD_some, factsF, opsF, opsX, ncount, wantG, dstL, quietS, List.append_eq, List.cons_append, List.nil_append, seval] at c; exact nd c <| nd @bs51 <| @fi40)
theorem c40 : type_of% x40.down := x40.down
end Go.Proofs.YtemapihoobmonaaDoor
namespace Go.Proofs.YtemapihoobmonaaDoor
open Go.Am
set_option linter.unusedSimpArgs false
set_option linter.unusedVariables false
set_option maxRecDepth 100000
theorem pure_iu (a : Int) : pureRun Tryd.prog (Next.value <$> convert 3 98 (.int .i64 a)) = some (Next.value (.int .u64 (IntKind.u64.wrap a))) := by rfl
theorem pure_ui (a : Int) : pureRun Tryd.prog (Next.value <$> convert 98 3 (.int .u64 a)) = some (Next.value (.int .i64 (IntKind.i64.wrap a))) := by rfl
theorem bin_shr {T : Tab} {t : TypeId} {k kd : IntKind} {a b : Int} (hb : ¬ b < 0) : binA Tryd.prog T .shr t (.int k a) (.int kd b) = some (.int k (a.fdiv (2 ^ (min b.toNat k.bits)))) := by
  have h1 : ((T.desc t).bind fun d => eqNil d (.int k a) (.int kd b)) = none := by
    cases T.desc t with
    | none => rfl
    | some d => cases d <;> rfl
  have h2 : pureRun Tryd.prog (binOp .shr t (.int k a) (.int kd b)) = some (.int k (a.fdiv (2 ^ (min b.toNat k.bits)))) := by
    simp [binOp, Op.shift, hb, pr_pure]
  unfold binA
  have hf : binFast .shr (.int k a) (.int kd b) = none := rfl
  rw [hf]
  simp [h1, h2]
  exact ⟨⟨rfl, rfl⟩, rfl⟩
theorem w_conv {d} {s t ty : TypeId} {x : Operand} {pos af g} {kk : IntKind} {a : Int} {v : Value} {e : Env} {h : Heap} {K : Value → Heap → Prop} (hs : isSlice tab s = false) (ht : isSlice tab t = false) (hx : evalOperand e x = .int kk a) (hc : pureRun Tryd.prog (Next.value <$> convert s t (.int kk a)) = some (Next.value v)) (hv : plain v = true) : WOp Tryd.prog tab ov ⟨d, .convert s t x, ty, pos, af, g⟩ e h K = K v h := by
  rw [w_convert d ty pos af g e h K s t x hs ht]
  have hp : pureOp Tryd.prog e ⟨d, .convert s t x, ty, pos, af, g⟩ h = some (v, h) := by
    unfold pureOp
    simp [Op.operands, hx, execOp]
    refine ⟨rfl, ?_⟩
    rw [hc]
    simp [hv]
  rw [hp]
  rfl
end Go.Proofs.YtemapihoobmonaaDoor
namespace Go.Proofs.YtemapihoobmonaaDoor
open Go.Am
set_option linter.unusedSimpArgs false
set_option linter.unusedVariables false
set_option maxRecDepth 100000
set_option maxHeartbeats 0
theorem ok_search (w : Nat) (hn : w ≤ 1000) (fv : Value) (pr : Nat → Bool) (h : Heap) (hpf : ∀ (i : Nat) (hc : Heap) (K : Value → Heap → Prop), i < w → Ext h hc → (∀ h', Ext hc h' → K (.bool (pr i)) h') → callE Tryd.prog tab ov [.int .i64 i] hc K fv) (K : Value → Heap → Prop)
    (hk : ∀ (h' : Heap) (i : Nat), Ext h h' → i ≤ w → (0 < i → pr (i - 1) = false) → (i < w → pr i = true) → K (.int .i64 i) h') : Ok Tryd.prog tab ov 55 [.int .i64 w, fv] h K := by
  rw [lay_nil h]
  have z := Ext.refl h
  refine Ok.into rfl tab_fn55 (bodyF N55) rfl (m := 24) rfl ?_
  simp -implicitDefEqProofs only [syms, symx, seval, c55]
  obtain ⟨I1, hI1⟩ : ∃ I : Nat → Env → Heap → Prop, I = (fun n e h' => ∃ (lo hi : Nat) (h1 : Heap), h' = h1.lay [] h1.low ∧ Ext h h1 ∧ (n = hi - lo ∧ lo ≤ hi ∧ hi ≤ w ∧ (0 < lo → pr (lo - 1) = false) ∧ (hi < w → pr hi = true)) ∧ ∃ J : Nat → Value, e = (.int .i64 w :: fv :: jr J 2 3 (.int .i64 lo :: .int .i64 hi :: jr J 7 19 ([])))) := ⟨_, rfl⟩
  refine W_loopN I1 _ (by rw [hI1]; exact ⟨0, w, _, rfl, z, ⟨rfl, by omega, by omega, by omega, by omega⟩, junk (by kernel_rfl)⟩) ?_
  intro n e h' hin
  rw [hI1] at hin
  obtain ⟨lo, hi, h1', rfl, z, hinv, J, rfl⟩ := hin
  obtain ⟨rfl, h1, h2, h3, h4⟩ := hinv
  simp -implicitDefEqProofs only [syms, symx, seval, c55]
  refine forkD (fun hlt => ?_) (fun hlt => ?_)
  rotate_left
  · simp -implicitDefEqProofs only [syms, symx, seval, c55]
    obtain rfl : lo = hi := by omega
    exact hk _ lo (z.upW _ _ (by omega)) h2 h3 h4
  have e1 : IntKind.i64.wrap ((lo : Int) + (hi : Int)) = ((lo + hi : Nat) : Int) := by rw [wrap_i64 (by omega) (by omega)]; omega
  have e2 : IntKind.u64.wrap ((lo + hi : Nat) : Int) = ((lo + hi : Nat) : Int) := by unfold IntKind.wrap; simp [IntKind.bits]; omega
  have e3 : IntKind.i64.wrap (((lo + hi) / 2 : Nat) : Int) = (((lo + hi) / 2 : Nat) : Int) := wrap_i64 (by omega) (by omega)
  have e4 : Int.fdiv ((lo + hi : Nat) : Int) (2 ^ (min (1 : Int).toNat (IntKind.bits .u64))) = (((lo + hi) / 2 : Nat) : Int) := by
    show Int.fdiv ((lo + hi : Nat) : Int) 2 = _
    rw [Int.fdiv_eq_ediv_of_nonneg _ (by omega)]
    omega
  repeat' ( simp -implicitDefEqProofs only [syms, symx, seval, c55, e1])
  rw [w_conv rfl rfl rfl (pure_iu _) rfl, e2]
  repeat' ( simp -implicitDefEqProofs only [syms, symx, seval, c55, e1])
  rw [bin_shr (by decide), e4]
  repeat' ( simp -implicitDefEqProofs only [syms, symx, seval, c55, e1])
  rw [w_conv rfl rfl rfl (pure_ui _) rfl, e3]
  repeat' ( simp -implicitDefEqProofs only [syms, symx, seval, c55, e1])
  refine hpf ((lo + hi) / 2) _ _ (by omega) (z.upW _ _ (by omega)) (fun h' x => ?_)
  ((skip); replace z := z.overW x (by (try simp only [lsz]); omega); rw [lay_nil h'])
  have e5 : IntKind.i64.wrap ((((lo + hi) / 2 : Nat) : Int) + 1) = (((lo + hi) / 2 + 1 : Nat) : Int) := by rw [wrap_i64 (by omega) (by omega)]; omega
  cases hx : pr ((lo + hi) / 2)
  · repeat' (first | simp -implicitDefEqProofs only [syms, symx, seval, c55] | ((with_reducible_and_instances apply unop_not); (· rfl)))
    rw [e5]
    (rw [hI1]; with_reducible refine loopN_normal (m := _) ?_ ⟨(lo + hi) / 2 + 1, hi, _, rfl, z, ⟨rfl, by omega, by omega, by intro _; simpa using hx, h4⟩, junk (by kernel_rfl)⟩; omega)
  · repeat' (first | simp -implicitDefEqProofs only [syms, symx, seval, c55] | ((with_reducible_and_instances apply unop_not); (· rfl)))
    (rw [hI1]; with_reducible refine loopN_normal (m := _) ?_ ⟨lo, (lo + hi) / 2, _, rfl, z, ⟨rfl, by omega, by omega, h3, by intro _; exact hx⟩, junk (by kernel_rfl)⟩; omega)
end Go.Proofs.YtemapihoobmonaaDoor
