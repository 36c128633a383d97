/- The code of some functions, node by node, for simp. Written by a program (mkcode.py). No condition. -/
import Derived.Test.YtompindebndddaaG19
import Derived.Test.YtompindebndddaaG14
import Derived.KernelRfl
import Derived.Test.YtompindebndddaaG18
import Derived.Test.YtompindebndddaaGInt
namespace Go.Proofs.Ytompindebndddaa
open Go.Am
set_option linter.unusedVariables false
set_option maxRecDepth 100000
noncomputable def K42_0 := Try.f42.body.getD .skip
noncomputable def K42_1 := lft K42_0
noncomputable def A42_1 := rops K42_1
noncomputable def K42_2 := rgt K42_0
noncomputable def K42_3 := lft K42_2
noncomputable def A42_3 := rops K42_3
noncomputable def K42_4 := rgt K42_2
noncomputable def K42_5 := lft K42_4
noncomputable def K42_6 := lft K42_5
noncomputable def A42_6 := rops K42_6
noncomputable def K42_7 := rgt K42_5
noncomputable def K42_8 := lft K42_7
noncomputable def K42_9 := lft K42_8
noncomputable def K42_10 := lft K42_9
noncomputable def K42_11 := lft K42_10
noncomputable def A42_11 := rops K42_11
noncomputable def K42_12 := rgt K42_10
noncomputable def K42_13 := lft K42_12
noncomputable def K42_14 := rgt K42_12
noncomputable def K42_15 := rgt K42_9
noncomputable def K42_16 := lft K42_15
noncomputable def K42_17 := lft K42_16
noncomputable def A42_17 := rops K42_17
noncomputable def K42_18 := rgt K42_15
noncomputable def A42_18 := rops K42_18
noncomputable def K42_19 := rgt K42_4
noncomputable def K42_20 := lft K42_19
noncomputable def A42_20 := rops K42_20
noncomputable def K42_21 := rgt K42_19
theorem body42 : Try.f42.body = some K42_0 := by kernel_rfl
noncomputable def xcode42_0 := PLift.up (nd (seqK K42_0 K42_1 K42_2) <| nd (regK K42_1 A42_1) <| nd (nilK A42_1 2) <| nd (opS A42_1 0 1) <| nd (opS A42_1 1 2) <| nd (seqK K42_2 K42_3 K42_4) <| nd (regK K42_3 A42_3) <| nd (nilK A42_3 11) <| nd (opS A42_3 0 1) <| nd (opS A42_3 1 2) <| nd (opS A42_3 2 3) <| nd (opS A42_3 3 4) <| nd (opS A42_3 4 5) <| nd (opSG A42_3 5 6) <| nd (opSG A42_3 6 7) <| nd (opSG A42_3 7 8) <| nd (opSG A42_3 8 9) <| nd (opS A42_3 9 10) <| nd (opS A42_3 10 11) <| nd (seqK K42_4 K42_5 K42_19) <| nd (seqK K42_5 K42_6 K42_7) <| nd (regK K42_6 A42_6) <| nd (nilK A42_6 1) <| nd (opS A42_6 0 1) <| nd (blkK K42_7 K42_8) <| nd (loopK K42_8 K42_9) <| nd (seqK K42_9 K42_10 K42_15) <| nd (seqK K42_10 K42_11 K42_12) <| nd (regK K42_11 A42_11) <| nd (nilK A42_11 2) <| nd (opS A42_11 0 1) <| nd (opS A42_11 1 2) <| nd (condK K42_12 K42_13 K42_14) <| nd (skipK K42_13) <| nd (exitK K42_14) <| nd (seqK K42_15 K42_16 K42_18) <| nd (blkK K42_16 K42_17) <| nd (regK K42_17 A42_17) <| nd (nilK A42_17 11) <| opS A42_17 0 1)
theorem code42_0 : type_of% xcode42_0.down := xcode42_0.down
noncomputable def xcode42_1 := PLift.up (nd (opS A42_17 1 2) <| nd (opSG A42_17 2 3) <| nd (opSG A42_17 3 4) <| nd (opSG A42_17 4 5) <| nd (opSG A42_17 5 6) <| nd (opSG A42_17 6 7) <| nd (opSG A42_17 7 8) <| nd (opSG A42_17 8 9) <| nd (opS A42_17 9 10) <| nd (opS A42_17 10 11) <| nd (regK K42_18 A42_18) <| nd (nilK A42_18 3) <| nd (opS A42_18 0 1) <| nd (opS A42_18 1 2) <| nd (opS A42_18 2 3) <| nd (seqK K42_19 K42_20 K42_21) <| nd (regK K42_20 A42_20) <| nd (nilK A42_20 2) <| nd (opS A42_20 0 1) <| nd (opS A42_20 1 2) <| retK K42_21)
theorem code42_1 : type_of% xcode42_1.down := xcode42_1.down
noncomputable def xty42 := PLift.up (nd @fa36_1 <| nd @fa39_0 <| nd @fa39_1 <| nd @fa39_3 <| nd @ix37 <| nd @ld9 <| nd @ln9 <| @fi42)
theorem ty42 : type_of% xty42.down := xty42.down

noncomputable def K23_0 := Try.f23.body.getD .skip
noncomputable def K23_1 := lft K23_0
noncomputable def A23_1 := rops K23_1
noncomputable def K23_2 := rgt K23_0
noncomputable def K23_3 := lft K23_2
noncomputable def K23_4 := lft K23_3
noncomputable def A23_4 := rops K23_4
noncomputable def K23_5 := rgt K23_3
noncomputable def K23_6 := lft K23_5
noncomputable def K23_7 := lft K23_6
noncomputable def A23_7 := rops K23_7
noncomputable def K23_8 := rgt K23_6
noncomputable def K23_9 := rgt K23_5
noncomputable def K23_10 := rgt K23_2
noncomputable def K23_11 := lft K23_10
noncomputable def K23_12 := lft K23_11
noncomputable def A23_12 := rops K23_12
noncomputable def K23_13 := rgt K23_11
noncomputable def K23_14 := lft K23_13
noncomputable def K23_15 := lft K23_14
noncomputable def K23_16 := lft K23_15
noncomputable def K23_17 := lft K23_16
noncomputable def A23_17 := rops K23_17
noncomputable def K23_18 := rgt K23_16
noncomputable def K23_19 := lft K23_18
noncomputable def K23_20 := rgt K23_18
noncomputable def K23_21 := rgt K23_15
noncomputable def K23_22 := lft K23_21
noncomputable def K23_23 := lft K23_22
noncomputable def K23_24 := lft K23_23
noncomputable def A23_24 := rops K23_24
noncomputable def K23_25 := rgt K23_23
noncomputable def K23_26 := lft K23_25
noncomputable def K23_27 := lft K23_26
noncomputable def A23_27 := rops K23_27
noncomputable def K23_28 := rgt K23_26
noncomputable def K23_29 := rgt K23_25
noncomputable def K23_30 := rgt K23_21
noncomputable def A23_30 := rops K23_30
noncomputable def K23_31 := rgt K23_10
noncomputable def K23_32 := lft K23_31
noncomputable def A23_32 := rops K23_32
noncomputable def K23_33 := rgt K23_31
theorem body23 : Try.f23.body = some K23_0 := by kernel_rfl
noncomputable def xcode23_0 := PLift.up (nd (seqK K23_0 K23_1 K23_2) <| nd (regK K23_1 A23_1) <| nd (nilK A23_1 1) <| nd (opS A23_1 0 1) <| nd (seqK K23_2 K23_3 K23_10) <| nd (seqK K23_3 K23_4 K23_5) <| nd (regK K23_4 A23_4) <| nd (nilK A23_4 4) <| nd (opS A23_4 0 1) <| nd (opS A23_4 1 2) <| nd (opS A23_4 2 3) <| nd (opS A23_4 3 4) <| nd (condK K23_5 K23_6 K23_9) <| nd (seqK K23_6 K23_7 K23_8) <| nd (regK K23_7 A23_7) <| nd (nilK A23_7 1) <| nd (opS A23_7 0 1) <| nd (retK K23_8) <| nd (skipK K23_9) <| nd (seqK K23_10 K23_11 K23_31) <| nd (seqK K23_11 K23_12 K23_13) <| nd (regK K23_12 A23_12) <| nd (nilK A23_12 1) <| nd (opS A23_12 0 1) <| nd (blkK K23_13 K23_14) <| nd (loopK K23_14 K23_15) <| nd (seqK K23_15 K23_16 K23_21) <| nd (seqK K23_16 K23_17 K23_18) <| nd (regK K23_17 A23_17) <| nd (nilK A23_17 4) <| nd (opS A23_17 0 1) <| nd (opS A23_17 1 2) <| nd (opS A23_17 2 3) <| nd (opS A23_17 3 4) <| nd (condK K23_18 K23_19 K23_20) <| nd (skipK K23_19) <| nd (exitK K23_20) <| nd (seqK K23_21 K23_22 K23_30) <| nd (blkK K23_22 K23_23) <| seqK K23_23 K23_24 K23_25)
theorem code23_0 : type_of% xcode23_0.down := xcode23_0.down
noncomputable def xcode23_1 := PLift.up (nd (regK K23_24 A23_24) <| nd (nilK A23_24 6) <| nd (opS A23_24 0 1) <| nd (opS A23_24 1 2) <| nd (opS A23_24 2 3) <| nd (opS A23_24 3 4) <| nd (opS A23_24 4 5) <| nd (opS A23_24 5 6) <| nd (condK K23_25 K23_26 K23_29) <| nd (seqK K23_26 K23_27 K23_28) <| nd (regK K23_27 A23_27) <| nd (nilK A23_27 1) <| nd (opS A23_27 0 1) <| nd (retK K23_28) <| nd (skipK K23_29) <| nd (regK K23_30 A23_30) <| nd (nilK A23_30 3) <| nd (opS A23_30 0 1) <| nd (opS A23_30 1 2) <| nd (opS A23_30 2 3) <| nd (seqK K23_31 K23_32 K23_33) <| nd (regK K23_32 A23_32) <| nd (nilK A23_32 1) <| nd (opS A23_32 0 1) <| retK K23_33)
theorem code23_1 : type_of% xcode23_1.down := xcode23_1.down
noncomputable def xty23 := PLift.up (nd @ix23 <| nd @ld39 <| nd @ln23 <| @fi23)
theorem ty23 : type_of% xty23.down := xty23.down





noncomputable def K27_0 := Try.f27.body.getD .skip
noncomputable def K27_1 := lft K27_0
noncomputable def A27_1 := rops K27_1
noncomputable def K27_2 := rgt K27_0
noncomputable def K27_3 := lft K27_2
noncomputable def A27_3 := rops K27_3
noncomputable def K27_4 := rgt K27_2
theorem body27 : Try.f27.body = some K27_0 := by kernel_rfl
noncomputable def xcode27_0 := PLift.up (nd (seqK K27_0 K27_1 K27_2) <| nd (regK K27_1 A27_1) <| nd (nilK A27_1 1) <| nd (opS A27_1 0 1) <| nd (seqK K27_2 K27_3 K27_4) <| nd (regK K27_3 A27_3) <| nd (nilK A27_3 4) <| nd (opS A27_3 0 1) <| nd (opS A27_3 1 2) <| nd (opS A27_3 2 3) <| nd (opS A27_3 3 4) <| retK K27_4)
theorem code27_0 : type_of% xcode27_0.down := xcode27_0.down
noncomputable def xty27 := PLift.up (nd @bs23 <| @fi27)
theorem ty27 : type_of% xty27.down := xty27.down

end Go.Proofs.Ytompindebndddaa
namespace Go.Proofs.Ytompindebndddaa
open Go.Am
set_option linter.unusedSimpArgs false
set_option linter.unusedVariables false
set_option maxRecDepth 100000
set_option maxHeartbeats 0
/-! ### Light -/
theorem ok_light (a : AtomD) (h : Heap) (K : Value → Heap → Prop) (h1 : a.light = true → ∀ h', Ext h h' → K (.bool true) h') (h2 : a.light = false → ∀ h', Ext h h' → K (.bool false) h') : Ok Try.prog tab ov 42 [a.val] h K := by
  rw [lay_nil h]
  have z := Ext.refl h
  unfold AtomD.val AtomD.cells
  refine Ok.into rfl tab_fn42 body42 rfl (m := 29) rfl ?_
  simp -implicitDefEqProofs only [syms, symx, Nat.reduceAdd, Nat.reduceMul, Int.reduceLT, Int.reduceLE, Int.reduceAdd, Int.reduceSub, Int.reduceToNat, Int.reduceNeg, reduceIte, Nat.reduceGT, Nat.reduceLT, Nat.reduceLeDiff, code42_0, code42_1, ty42]
  repeat' ((first
    | ((with_reducible first | apply forkD | apply forkB | apply forkN | apply forkNP | apply forkNot) <;> intro _)
    | with_reducible_and_instances refine W_unroll ?_
    | ((with_reducible_and_instances apply unop_not); (· rfl))) <;> simp -implicitDefEqProofs only [syms, symx, Nat.reduceAdd, Nat.reduceMul, Int.reduceLT, Int.reduceLE, Int.reduceAdd, Int.reduceSub, Int.reduceToNat, Int.reduceNeg, reduceIte, Nat.reduceGT, Nat.reduceLT, Nat.reduceLeDiff, code42_0, code42_1, ty42])
  all_goals first
    | with_reducible exact h2 (by simp [AtomD.light]; omega) _ (z.upW _ _ (by omega))
    | with_reducible exact h1 (by simp [AtomD.light]; omega) _ (z.upW _ _ (by omega))
theorem ok_lights (l : List AtomD) (v : Value) (m : Int) (h : Heap) (hl : Sl Rep.atom h v l) (K : Value → Heap → Prop) (h1 : (l.length : Int) ≤ m → (∀ a ∈ l, a.light = true) → ∀ h', Ext h h' → K (.bool true) h') (h2 : ∀ h', Ext h h' → K (.bool false) h') : Ok Try.prog tab ov 23 [v, .int .i64 m] h K := by
  rw [lay_nil h]
  have z := Ext.refl h
  have hle := hl.le
  refine Ok.into rfl tab_fn23 body23 rfl (m := 20) rfl ?_
  simp -implicitDefEqProofs only [syms, symx, Nat.reduceAdd, Nat.reduceMul, Int.reduceLT, Int.reduceLE, Int.reduceAdd, Int.reduceSub, Int.reduceToNat, Int.reduceNeg, reduceIte, Nat.reduceGT, Nat.reduceLT, Nat.reduceLeDiff, code23_0, code23_1, ty23]
  repeat' ((first
    | ((with_reducible first | apply forkD | apply forkB | apply forkN | apply forkNP | apply forkNot) <;> intro _)
    | with_reducible_and_instances refine ln_rule hl ds23 ?_
    | ((with_reducible_and_instances apply unop_not); (· rfl))) <;> simp -implicitDefEqProofs only [syms, symx, Nat.reduceAdd, Nat.reduceMul, Int.reduceLT, Int.reduceLE, Int.reduceAdd, Int.reduceSub, Int.reduceToNat, Int.reduceNeg, reduceIte, Nat.reduceGT, Nat.reduceLT, Nat.reduceLeDiff, code23_0, code23_1, ty23])
  · exact h2 _ (z.upW _ _ (by omega))
  refine W_loop (fun e h' => ∃ (i : Nat) (h1 : Heap) (x1 x2 x3 x4 x6 x7 x8 x9 x10 x11 x12 x13 x14 x15 x16 x17 x18 x19 x20 x21 : Value), h' = h1.lay [] h1.low ∧ Ext h h1 ∧ i ≤ l.length ∧ (∀ a ∈ l.take i, a.light = true) ∧ e = [v, x1, x2, x3, x4, .int .i64 i, x6, x7, x8, x9, x10, x11, x12, x13, x14, x15, x16, x17, x18, x19, x20, x21]) (fun e _ => match e.get 5 with | .int _ i => l.length - i.toNat | _ => 0) ?_ ?_
  · exact ⟨0, h, _, _, _, _, _, _, _, _, _, _, _, _, _, _, _, _, _, _, _, _, rfl, z, by omega, by simp, rfl⟩
  rintro e h' ⟨i, h1', x1, x2, x3, x4, x6, x7, x8, x9, x10, x11, x12, x13, x14, x15, x16, x17, x18, x19, x20, x21, rfl, z, hi, hall, rfl⟩
  have hw : i < l.length → IntKind.i64.wrap ((i : Int) + 1) = ((i + 1 : Nat) : Int) := fun hh => by unfold maxLen at hle; rw [wrap_i64 (by omega) (by omega)]; omega
  simp -implicitDefEqProofs only [syms, symx, Nat.reduceAdd, Nat.reduceMul, Int.reduceLT, Int.reduceLE, Int.reduceAdd, Int.reduceSub, Int.reduceToNat, Int.reduceNeg, reduceIte, Nat.reduceGT, Nat.reduceLT, Nat.reduceLeDiff, code23_0, code23_1, ty23]
  repeat' ((first
    | ((with_reducible first | apply forkD | apply forkB | apply forkN | apply forkNP | apply forkNot) <;> intro _)
    | with_reducible_and_instances refine ln_rule hl ds23 ?_
    | with_reducible_and_instances refine ixa (hl.mono z.inc) ds23 sz39 (by omega) (by omega) (fun a p ha hp => ?_)
    | with_reducible_and_instances refine lda hp ag39 sz39 ?_
    | ((with_reducible_and_instances refine ok_light _ _ _ (fun hlx h' x => ?_) (fun hlx h' x => ?_)) <;> ((skip); replace z := z.overW x (by (try simp only [lsz]); omega); rw [lay_nil h']))
    | ((with_reducible_and_instances apply unop_not); (· rfl))) <;> simp -implicitDefEqProofs only [syms, symx, Nat.reduceAdd, Nat.reduceMul, Int.reduceLT, Int.reduceLE, Int.reduceAdd, Int.reduceSub, Int.reduceToNat, Int.reduceNeg, reduceIte, Nat.reduceGT, Nat.reduceLT, Nat.reduceLeDiff, code23_0, code23_1, ty23])
  all_goals first
    | with_reducible exact h2 _ (z.upW _ _ (by omega))
    | with_reducible exact h1 (by omega) (by rw [List.take_of_length_le (by omega)] at hall; exact hall) _ (z.upW _ _ (by omega))
    | (rw [hw (by omega)]
       with_reducible refine loopE_normal ?_ ?_
       · exact ⟨i + 1, h', _, _, _, _, _, _, _, _, _, _, _, _, _, _, _, _, _, _, _, _, rfl, z, by omega, take_all ha hall hlx, rfl⟩
       · show l.length - ((i + 1 : Nat) : Int).toNat < l.length - (i : Int).toNat
         omega)
end Go.Proofs.Ytompindebndddaa
namespace Go.Proofs.Ytompindebndddaa
open Go.Am
set_option linter.unusedSimpArgs false
set_option linter.unusedVariables false
set_option maxRecDepth 100000
set_option maxHeartbeats 0
end Go.Proofs.Ytompindebndddaa
namespace Go.Proofs.Ytompindebndddaa
open Go.Am
set_option linter.unusedSimpArgs false
set_option linter.unusedVariables false
set_option maxRecDepth 100000
set_option maxHeartbeats 0
theorem ok_own (l : List AtomD) (v : Value) (h : Heap) (hl : Sl Rep.atom h v l) (hn : l.length ≤ 1000000) (K : Value → Heap → Prop) (hk : ∀ w A h', Ext h h' → Ow Rep.atom h h' 39 A w l → (A < h.size → False) → K w h') : Ok Try.prog tab ov 27 [v] h K := by
  rw [lay_nil h]
  refine Ok.into rfl tab_fn27 body27 rfl (m := 5) rfl ?_
  simp -implicitDefEqProofs only [syms, symx, Nat.reduceAdd, Nat.reduceMul, Int.reduceLT, Int.reduceLE, Int.reduceAdd, Int.reduceSub, Int.reduceToNat, Int.reduceNeg, reduceIte, Nat.reduceGT, Nat.reduceLT, Nat.reduceLeDiff, code27_0, ty27, w_append, sty23]
  obtain ⟨news, hs, hsr⟩ := src_sl (A := h.size + 1) (r := Rep.atom) (by decide) (hl.lay [.row [] 39 false] h.low) (fun cs y hr => hr)
  have f : Ow Rep.atom h (h.lay [.row [] 39 false] h.low) 39 (h.size + 1) (.slice (some ⟨h.size + 0, 0, none⟩) 0 0) [] :=
    .inl ⟨by omega, rfl, .inr ⟨h.size + 0, 0, rfl, by omega, by rw [lay_size]; simp, [], 39, false, by rw [lay_get]; rfl⟩⟩
  obtain ⟨w, h', A', e1, e2, e3, e4, e5⟩ := app_ow (t := 23) ds23 tab_info39 rfl (by decide) (by rw [lay_size]; omega) f hs hsr (by simp only [List.length_nil]; omega) (by simp only [List.length_nil]; omega)
  rw [e1]
  simp -implicitDefEqProofs only [syms, symx, Nat.reduceAdd, Nat.reduceMul, Int.reduceLT, Int.reduceLE, Int.reduceAdd, Int.reduceSub, Int.reduceToNat, Int.reduceNeg, reduceIte, Nat.reduceGT, Nat.reduceLT, Nat.reduceLeDiff, code27_0, ty27]
  exact hk _ _ _ ((Ext.refl h).stepW e3 (by omega) (by omega)) e2 (by omega)
end Go.Proofs.Ytompindebndddaa
namespace Go.Proofs.Ytompindebndddaa
open Go.Am
set_option linter.unusedSimpArgs false
set_option linter.unusedVariables false
set_option maxRecDepth 100000
set_option maxHeartbeats 0
end Go.Proofs.Ytompindebndddaa
namespace Go.Proofs.Ytompindebndddaa
open Go.Am
set_option linter.unusedSimpArgs false
set_option linter.unusedVariables false
set_option maxRecDepth 100000
set_option maxHeartbeats 0
end Go.Proofs.Ytompindebndddaa
