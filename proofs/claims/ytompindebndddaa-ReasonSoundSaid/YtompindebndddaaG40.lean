/- The code of some functions, node by node, for simp. Written by a program (mkcode.py). No condition. -/
import Derived.Test.YtompindebndddaaG19
import Derived.Test.YtompindebndddaaG14
import Derived.KernelRfl
import Derived.Test.YtompindebndddaaG17
import Derived.Test.YtompindebndddaaG21
namespace Go.Proofs.Ytompindebndddaa
open Go.Am
set_option linter.unusedVariables false
set_option linter.unusedSimpArgs false
set_option maxRecDepth 100000
set_option maxHeartbeats 0
noncomputable def N42 := nodeF Try.f42
noncomputable def x42 := PLift.up (by have c := factsOf N42 Try.f42; simp only [codeOf, Try.f42, Option.getD_some, factsF, opsF, opsX, ncount, wantG, dstL, quietS, List.append_eq, List.cons_append, List.nil_append, seval] at c; exact nd c <| nd @fa36_1 <| nd @fa39_0 <| nd @fa39_1 <| nd @fa39_3 <| nd @ix37 <| nd @ld9 <| nd @ln9 <| @fi42)
theorem c42 : type_of% x42.down := x42.down
noncomputable def N23 := nodeF Try.f23
noncomputable def x23 := PLift.up (by have c := factsOf N23 Try.f23; simp only [codeOf, Try.f23, Option.getD_some, factsF, opsF, opsX, ncount, wantG, dstL, quietS, List.append_eq, List.cons_append, List.nil_append, seval] at c; exact nd c <| nd @ix23 <| nd @ld39 <| nd @ln23 <| @fi23)
theorem c23 : type_of% x23.down := x23.down
noncomputable def N46 := nodeF Try.f46
noncomputable def x46 := PLift.up (by have c := factsOf N46 Try.f46; simp only [codeOf, Try.f46, Option.getD_some, factsF, opsF, opsX, ncount, wantG, dstL, quietS, List.append_eq, List.cons_append, List.nil_append, seval] at c; exact nd c <| nd @al36 <| nd @fa36_0 <| nd @fa36_1 <| nd @fa39_0 <| nd @fa39_1 <| nd @fa39_2 <| nd @fa39_3 <| nd @ix23 <| nd @ix37 <| nd @ld3 <| nd @ld36 <| nd @ld4 <| nd @ld9 <| nd @ln23 <| nd @ln9 <| @fi46)
theorem c46 : type_of% x46.down := x46.down
noncomputable def N15 := nodeF Try.f15
noncomputable def x15 := PLift.up (by have c := factsOf N15 Try.f15; simp only [codeOf, Try.f15, Option.getD_some, factsF, opsF, opsX, ncount, wantG, dstL, quietS, List.append_eq, List.cons_append, List.nil_append, seval] at c; exact nd c <| nd @bs23 <| nd @fa41_0 <| nd @fa41_2 <| nd @ix24 <| nd @ld23 <| nd @ld39 <| nd @ln24 <| @fi15)
theorem c15 : type_of% x15.down := x15.down
noncomputable def N14 := nodeF Try.f14
noncomputable def x14 := PLift.up (by have c := factsOf N14 Try.f14; simp only [codeOf, Try.f14, Option.getD_some, factsF, opsF, opsX, ncount, wantG, dstL, quietS, List.append_eq, List.cons_append, List.nil_append, seval] at c; exact nd c <| nd @fa47_0 <| nd @fa47_1 <| nd @ix22 <| nd @ld23 <| nd @ld39 <| nd @ln22 <| @fi14)
theorem c14 : type_of% x14.down := x14.down
end Go.Proofs.Ytompindebndddaa
namespace Go.Proofs.Ytompindebndddaa
open Go.Am
set_option linter.unusedSimpArgs false
set_option linter.unusedVariables false
set_option maxRecDepth 100000
set_option maxHeartbeats 0
/-! ### Light -/
theorem ok_light (a : AtomD) (h : Heap) (K : Value → Heap → Prop) (h1 : a.light = true → ∀ h', Ext h h' → K (.bool true) h') (h2 : a.light = false → ∀ h', Ext h h' → K (.bool false) h') : Ok Try.prog tab ov 42 [a.val] h K := by
  rw [lay_nil h]
  have z := Ext.refl h
  unfold AtomD.val AtomD.cells
  refine Ok.into rfl tab_fn42 (bodyF N42) rfl (m := 29) rfl ?_
  simp -implicitDefEqProofs only [syms, symx, seval, c42]
  repeat' ((first | ((with_reducible  apply forkD ) <;> intro _) | with_reducible_and_instances refine W_unroll ?_) <;> simp -implicitDefEqProofs only [syms, symx, seval, c42])
  all_goals first
    | with_reducible exact h2 (by simp [AtomD.light]; omega) _ (z.upW _ _ (by omega))
    | with_reducible exact h1 (by simp [AtomD.light]; omega) _ (z.upW _ _ (by omega))
theorem ok_lights (l : List AtomD) (v : Value) (m : Int) (h : Heap) (hl : Sl Rep.atom h v l) (K : Value → Heap → Prop) (h1 : (l.length : Int) ≤ m → (∀ a ∈ l, a.light = true) → ∀ h', Ext h h' → K (.bool true) h') (h2 : ∀ h', Ext h h' → K (.bool false) h') : Ok Try.prog tab ov 23 [v, .int .i64 m] h K := by
  rw [lay_nil h]
  have z := Ext.refl h
  have hle := hl.le
  refine Ok.into rfl tab_fn23 (bodyF N23) rfl (m := 20) rfl ?_
  simp -implicitDefEqProofs only [syms, symx, seval, c23]
  repeat' ((first | ((with_reducible  apply forkD ) <;> intro _) | with_reducible_and_instances refine ln_rule hl ds23 ?_) <;> simp -implicitDefEqProofs only [syms, symx, seval, c23])
  · exact h2 _ (z.upW _ _ (by omega))
  refine W_loop (fun e h' => ∃ (i : Nat) (h1 : Heap) (x1 x2 x3 x4 x6 x7 x8 x9 x10 x11 x12 x13 x14 x15 x16 x17 x18 x19 x20 x21 : Value), h' = h1.lay [] h1.low ∧ Ext h h1 ∧ i ≤ l.length ∧ (∀ a ∈ l.take i, a.light = true) ∧ e = [v, x1, x2, x3, x4, .int .i64 i, x6, x7, x8, x9, x10, x11, x12, x13, x14, x15, x16, x17, x18, x19, x20, x21]) (fun e _ => match e.get 5 with | .int _ i => l.length - i.toNat | _ => 0) ?_ ?_
  · exact ⟨0, h, _, _, _, _, _, _, _, _, _, _, _, _, _, _, _, _, _, _, _, _, rfl, z, by omega, by simp, rfl⟩
  rintro e h' ⟨i, h1', x1, x2, x3, x4, x6, x7, x8, x9, x10, x11, x12, x13, x14, x15, x16, x17, x18, x19, x20, x21, rfl, z, hi, hall, rfl⟩
  have hw : i < l.length → IntKind.i64.wrap ((i : Int) + 1) = ((i + 1 : Nat) : Int) := fun hh => by unfold maxLen at hle; rw [wrap_i64 (by omega) (by omega)]; omega
  simp -implicitDefEqProofs only [syms, symx, seval, c23]
  repeat' ((first | ((with_reducible  apply forkD ) <;> intro _) | with_reducible_and_instances refine ln_rule hl ds23 ?_ | with_reducible_and_instances refine ixa (hl.mono z.inc) ds23 sz39 (by omega) (by omega) (fun a p ha hp => ?_) | with_reducible_and_instances refine lda hp ag39 sz39 ?_ | ((with_reducible_and_instances refine ok_light _ _ _ (fun hlx h' x => ?_) (fun hlx h' x => ?_)) <;> ((skip); replace z := z.overW x (by (try simp only [lsz]); omega); rw [lay_nil h'])) | ((with_reducible_and_instances apply unop_not); (· rfl))) <;> simp -implicitDefEqProofs only [syms, symx, seval, c23])
  all_goals first
    | with_reducible exact h2 _ (z.upW _ _ (by omega))
    | with_reducible exact h1 (by omega) (by rw [List.take_of_length_le (by omega)] at hall; exact hall) _ (z.upW _ _ (by omega))
    | (rw [hw (by omega)]
       with_reducible refine loopE_normal ?_ ?_
       · exact ⟨i + 1, h', _, _, _, _, _, _, _, _, _, _, _, _, _, _, _, _, _, _, _, _, rfl, z, by omega, take_all ha hall hlx, rfl⟩
       · show l.length - ((i + 1 : Nat) : Int).toNat < l.length - (i : Int).toNat
         omega)
theorem light_one {a : AtomD} (h : a.light = true) : ∀ x ∈ [a], x.light = true := by simpa using h
end Go.Proofs.Ytompindebndddaa
