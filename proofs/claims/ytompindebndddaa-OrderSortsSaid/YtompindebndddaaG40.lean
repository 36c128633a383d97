/- The code of some functions, node by node, for simp. Written by a program (mkcode.py). No condition. -/
import Derived.Test.YtompindebndddaaG19
import Derived.Test.YtompindebndddaaG14
import Derived.KernelRfl
import Derived.Test.YtompindebndddaaG18
import Derived.Test.YtompindebndddaaGInt
import Derived.Test.YtompindebndddaaG36
import Derived.Test.YtompindebndddaaG38
import Derived.Test.YtompindebndddaaZE9
import Derived.Test.YtompindebndddaaG12
import Derived.Test.YtompindebndddaaRows
namespace Go.Proofs.Ytompindebndddaa
open Go.Am
set_option linter.unusedVariables false
set_option maxRecDepth 100000
noncomputable def K42_0 : Code := Try.f42.body.getD .skip
noncomputable def K42_1 : Code := lft K42_0
noncomputable def A42_1 : Array Oper := rops K42_1
noncomputable def K42_2 : Code := rgt K42_0
noncomputable def K42_3 : Code := lft K42_2
noncomputable def A42_3 : Array Oper := rops K42_3
noncomputable def K42_4 : Code := rgt K42_2
noncomputable def K42_5 : Code := lft K42_4
noncomputable def K42_6 : Code := lft K42_5
noncomputable def A42_6 : Array Oper := rops K42_6
noncomputable def K42_7 : Code := rgt K42_5
noncomputable def K42_8 : Code := lft K42_7
noncomputable def K42_9 : Code := lft K42_8
noncomputable def K42_10 : Code := lft K42_9
noncomputable def K42_11 : Code := lft K42_10
noncomputable def A42_11 : Array Oper := rops K42_11
noncomputable def K42_12 : Code := rgt K42_10
noncomputable def K42_13 : Code := lft K42_12
noncomputable def K42_14 : Code := rgt K42_12
noncomputable def K42_15 : Code := rgt K42_9
noncomputable def K42_16 : Code := lft K42_15
noncomputable def K42_17 : Code := lft K42_16
noncomputable def A42_17 : Array Oper := rops K42_17
noncomputable def K42_18 : Code := rgt K42_15
noncomputable def A42_18 : Array Oper := rops K42_18
noncomputable def K42_19 : Code := rgt K42_4
noncomputable def K42_20 : Code := lft K42_19
noncomputable def A42_20 : Array Oper := rops K42_20
noncomputable def K42_21 : Code := rgt K42_19
theorem body42 : Try.f42.body = some K42_0 := by kernel_rfl
noncomputable def xcode42_0 := PLift.up (And.intro (seqK K42_0 K42_1 K42_2 rfl) <| And.intro (regK K42_1 A42_1 rfl) <| And.intro (nilK A42_1 2 rfl) <| And.intro (opS A42_1 0 1 rfl rfl rfl) <| And.intro (opS A42_1 1 2 rfl rfl rfl) <| And.intro (seqK K42_2 K42_3 K42_4 rfl) <| And.intro (regK K42_3 A42_3 rfl) <| And.intro (nilK A42_3 11 rfl) <| And.intro (opS A42_3 0 1 rfl rfl rfl) <| And.intro (opS A42_3 1 2 rfl rfl rfl) <| And.intro (opS A42_3 2 3 rfl rfl rfl) <| And.intro (opS A42_3 3 4 rfl rfl rfl) <| And.intro (opS A42_3 4 5 rfl rfl rfl) <| And.intro (opSG A42_3 5 6 rfl rfl rfl rfl) <| And.intro (opSG A42_3 6 7 rfl rfl rfl rfl) <| And.intro (opSG A42_3 7 8 rfl rfl rfl rfl) <| And.intro (opSG A42_3 8 9 rfl rfl rfl rfl) <| And.intro (opS A42_3 9 10 rfl rfl rfl) <| And.intro (opS A42_3 10 11 rfl rfl rfl) <| And.intro (seqK K42_4 K42_5 K42_19 rfl) <| And.intro (seqK K42_5 K42_6 K42_7 rfl) <| And.intro (regK K42_6 A42_6 rfl) <| And.intro (nilK A42_6 1 rfl) <| And.intro (opS A42_6 0 1 rfl rfl rfl) <| And.intro (blkK K42_7 K42_8 rfl) <| And.intro (loopK K42_8 K42_9 rfl) <| And.intro (seqK K42_9 K42_10 K42_15 rfl) <| And.intro (seqK K42_10 K42_11 K42_12 rfl) <| And.intro (regK K42_11 A42_11 rfl) <| And.intro (nilK A42_11 2 rfl) <| And.intro (opS A42_11 0 1 rfl rfl rfl) <| And.intro (opS A42_11 1 2 rfl rfl rfl) <| And.intro (condK K42_12 K42_13 K42_14 rfl) <| And.intro (skipK K42_13 rfl) <| And.intro (exitK K42_14 rfl) <| And.intro (seqK K42_15 K42_16 K42_18 rfl) <| And.intro (blkK K42_16 K42_17 rfl) <| And.intro (regK K42_17 A42_17 rfl) <| And.intro (nilK A42_17 11 rfl) <| opS A42_17 0 1 rfl rfl rfl)
theorem code42_0 : type_of% xcode42_0.down := xcode42_0.down
noncomputable def xcode42_1 := PLift.up (And.intro (opS A42_17 1 2 rfl rfl rfl) <| And.intro (opSG A42_17 2 3 rfl rfl rfl rfl) <| And.intro (opSG A42_17 3 4 rfl rfl rfl rfl) <| And.intro (opSG A42_17 4 5 rfl rfl rfl rfl) <| And.intro (opSG A42_17 5 6 rfl rfl rfl rfl) <| And.intro (opSG A42_17 6 7 rfl rfl rfl rfl) <| And.intro (opSG A42_17 7 8 rfl rfl rfl rfl) <| And.intro (opSG A42_17 8 9 rfl rfl rfl rfl) <| And.intro (opS A42_17 9 10 rfl rfl rfl) <| And.intro (opS A42_17 10 11 rfl rfl rfl) <| And.intro (regK K42_18 A42_18 rfl) <| And.intro (nilK A42_18 3 rfl) <| And.intro (opS A42_18 0 1 rfl rfl rfl) <| And.intro (opS A42_18 1 2 rfl rfl rfl) <| And.intro (opS A42_18 2 3 rfl rfl rfl) <| And.intro (seqK K42_19 K42_20 K42_21 rfl) <| And.intro (regK K42_20 A42_20 rfl) <| And.intro (nilK A42_20 2 rfl) <| And.intro (opS A42_20 0 1 rfl rfl rfl) <| And.intro (opS A42_20 1 2 rfl rfl rfl) <| retK K42_21 rfl)
theorem code42_1 : type_of% xcode42_1.down := xcode42_1.down
noncomputable def xty42 := PLift.up (And.intro @fa36_1 <| And.intro @fa39_0 <| And.intro @fa39_1 <| And.intro @fa39_3 <| And.intro @ix37 <| And.intro @ld9 <| And.intro @ln9 <| @fi42)
theorem ty42 : type_of% xty42.down := xty42.down

noncomputable def K23_0 : Code := Try.f23.body.getD .skip
noncomputable def K23_1 : Code := lft K23_0
noncomputable def A23_1 : Array Oper := rops K23_1
noncomputable def K23_2 : Code := rgt K23_0
noncomputable def K23_3 : Code := lft K23_2
noncomputable def K23_4 : Code := lft K23_3
noncomputable def A23_4 : Array Oper := rops K23_4
noncomputable def K23_5 : Code := rgt K23_3
noncomputable def K23_6 : Code := lft K23_5
noncomputable def K23_7 : Code := lft K23_6
noncomputable def A23_7 : Array Oper := rops K23_7
noncomputable def K23_8 : Code := rgt K23_6
noncomputable def K23_9 : Code := rgt K23_5
noncomputable def K23_10 : Code := rgt K23_2
noncomputable def K23_11 : Code := lft K23_10
noncomputable def K23_12 : Code := lft K23_11
noncomputable def A23_12 : Array Oper := rops K23_12
noncomputable def K23_13 : Code := rgt K23_11
noncomputable def K23_14 : Code := lft K23_13
noncomputable def K23_15 : Code := lft K23_14
noncomputable def K23_16 : Code := lft K23_15
noncomputable def K23_17 : Code := lft K23_16
noncomputable def A23_17 : Array Oper := rops K23_17
noncomputable def K23_18 : Code := rgt K23_16
noncomputable def K23_19 : Code := lft K23_18
noncomputable def K23_20 : Code := rgt K23_18
noncomputable def K23_21 : Code := rgt K23_15
noncomputable def K23_22 : Code := lft K23_21
noncomputable def K23_23 : Code := lft K23_22
noncomputable def K23_24 : Code := lft K23_23
noncomputable def A23_24 : Array Oper := rops K23_24
noncomputable def K23_25 : Code := rgt K23_23
noncomputable def K23_26 : Code := lft K23_25
noncomputable def K23_27 : Code := lft K23_26
noncomputable def A23_27 : Array Oper := rops K23_27
noncomputable def K23_28 : Code := rgt K23_26
noncomputable def K23_29 : Code := rgt K23_25
noncomputable def K23_30 : Code := rgt K23_21
noncomputable def A23_30 : Array Oper := rops K23_30
noncomputable def K23_31 : Code := rgt K23_10
noncomputable def K23_32 : Code := lft K23_31
noncomputable def A23_32 : Array Oper := rops K23_32
noncomputable def K23_33 : Code := rgt K23_31
theorem body23 : Try.f23.body = some K23_0 := by kernel_rfl
noncomputable def xcode23_0 := PLift.up (And.intro (seqK K23_0 K23_1 K23_2 rfl) <| And.intro (regK K23_1 A23_1 rfl) <| And.intro (nilK A23_1 1 rfl) <| And.intro (opS A23_1 0 1 rfl rfl rfl) <| And.intro (seqK K23_2 K23_3 K23_10 rfl) <| And.intro (seqK K23_3 K23_4 K23_5 rfl) <| And.intro (regK K23_4 A23_4 rfl) <| And.intro (nilK A23_4 4 rfl) <| And.intro (opS A23_4 0 1 rfl rfl rfl) <| And.intro (opS A23_4 1 2 rfl rfl rfl) <| And.intro (opS A23_4 2 3 rfl rfl rfl) <| And.intro (opS A23_4 3 4 rfl rfl rfl) <| And.intro (condK K23_5 K23_6 K23_9 rfl) <| And.intro (seqK K23_6 K23_7 K23_8 rfl) <| And.intro (regK K23_7 A23_7 rfl) <| And.intro (nilK A23_7 1 rfl) <| And.intro (opS A23_7 0 1 rfl rfl rfl) <| And.intro (retK K23_8 rfl) <| And.intro (skipK K23_9 rfl) <| And.intro (seqK K23_10 K23_11 K23_31 rfl) <| And.intro (seqK K23_11 K23_12 K23_13 rfl) <| And.intro (regK K23_12 A23_12 rfl) <| And.intro (nilK A23_12 1 rfl) <| And.intro (opS A23_12 0 1 rfl rfl rfl) <| And.intro (blkK K23_13 K23_14 rfl) <| And.intro (loopK K23_14 K23_15 rfl) <| And.intro (seqK K23_15 K23_16 K23_21 rfl) <| And.intro (seqK K23_16 K23_17 K23_18 rfl) <| And.intro (regK K23_17 A23_17 rfl) <| And.intro (nilK A23_17 4 rfl) <| And.intro (opS A23_17 0 1 rfl rfl rfl) <| And.intro (opS A23_17 1 2 rfl rfl rfl) <| And.intro (opS A23_17 2 3 rfl rfl rfl) <| And.intro (opS A23_17 3 4 rfl rfl rfl) <| And.intro (condK K23_18 K23_19 K23_20 rfl) <| And.intro (skipK K23_19 rfl) <| And.intro (exitK K23_20 rfl) <| And.intro (seqK K23_21 K23_22 K23_30 rfl) <| And.intro (blkK K23_22 K23_23 rfl) <| seqK K23_23 K23_24 K23_25 rfl)
theorem code23_0 : type_of% xcode23_0.down := xcode23_0.down
noncomputable def xcode23_1 := PLift.up (And.intro (regK K23_24 A23_24 rfl) <| And.intro (nilK A23_24 6 rfl) <| And.intro (opS A23_24 0 1 rfl rfl rfl) <| And.intro (opS A23_24 1 2 rfl rfl rfl) <| And.intro (opS A23_24 2 3 rfl rfl rfl) <| And.intro (opS A23_24 3 4 rfl rfl rfl) <| And.intro (opS A23_24 4 5 rfl rfl rfl) <| And.intro (opS A23_24 5 6 rfl rfl rfl) <| And.intro (condK K23_25 K23_26 K23_29 rfl) <| And.intro (seqK K23_26 K23_27 K23_28 rfl) <| And.intro (regK K23_27 A23_27 rfl) <| And.intro (nilK A23_27 1 rfl) <| And.intro (opS A23_27 0 1 rfl rfl rfl) <| And.intro (retK K23_28 rfl) <| And.intro (skipK K23_29 rfl) <| And.intro (regK K23_30 A23_30 rfl) <| And.intro (nilK A23_30 3 rfl) <| And.intro (opS A23_30 0 1 rfl rfl rfl) <| And.intro (opS A23_30 1 2 rfl rfl rfl) <| And.intro (opS A23_30 2 3 rfl rfl rfl) <| And.intro (seqK K23_31 K23_32 K23_33 rfl) <| And.intro (regK K23_32 A23_32 rfl) <| And.intro (nilK A23_32 1 rfl) <| And.intro (opS A23_32 0 1 rfl rfl rfl) <| retK K23_33 rfl)
theorem code23_1 : type_of% xcode23_1.down := xcode23_1.down
noncomputable def xty23 := PLift.up (And.intro @ix23 <| And.intro @ld39 <| And.intro @ln23 <| @fi23)
theorem ty23 : type_of% xty23.down := xty23.down





noncomputable def K27_0 : Code := Try.f27.body.getD .skip
noncomputable def K27_1 : Code := lft K27_0
noncomputable def A27_1 : Array Oper := rops K27_1
noncomputable def K27_2 : Code := rgt K27_0
noncomputable def K27_3 : Code := lft K27_2
noncomputable def A27_3 : Array Oper := rops K27_3
noncomputable def K27_4 : Code := rgt K27_2
theorem body27 : Try.f27.body = some K27_0 := by kernel_rfl
noncomputable def xcode27_0 := PLift.up (And.intro (seqK K27_0 K27_1 K27_2 rfl) <| And.intro (regK K27_1 A27_1 rfl) <| And.intro (nilK A27_1 1 rfl) <| And.intro (opS A27_1 0 1 rfl rfl rfl) <| And.intro (seqK K27_2 K27_3 K27_4 rfl) <| And.intro (regK K27_3 A27_3 rfl) <| And.intro (nilK A27_3 4 rfl) <| And.intro (opS A27_3 0 1 rfl rfl rfl) <| And.intro (opS A27_3 1 2 rfl rfl rfl) <| And.intro (opS A27_3 2 3 rfl rfl rfl) <| And.intro (opS A27_3 3 4 rfl rfl rfl) <| retK K27_4 rfl)
theorem code27_0 : type_of% xcode27_0.down := xcode27_0.down
noncomputable def xty27 := PLift.up (And.intro @bs23 <| @fi27)
theorem ty27 : type_of% xty27.down := xty27.down

end Go.Proofs.Ytompindebndddaa
namespace Go.Proofs.Ytompindebndddaa
open Go.Am
set_option linter.unusedSimpArgs false
set_option linter.unusedVariables false
set_option maxRecDepth 100000
set_option maxHeartbeats 0
/-! ### Light -/
theorem ok_light (a : AtomD) (h : Heap) (K : Value → Heap → Prop) (h1 : a.light = true → ∀ h', Ext h h' → K (.bool true) h') (h2 : a.light = false → ∀ h', Ext h h' → K (.bool false) h') : Ok Try.prog tab ov 42 [a.val] h K := by
  rw [lay_nil h]
  have z := Ext.refl h
  unfold AtomD.val AtomD.cells
  refine Ok.into rfl tab_fn42 body42 rfl (m := 29) rfl ?_
  simp -implicitDefEqProofs only [syms, symx, Nat.reduceAdd, Nat.reduceMul, Int.reduceLT, Int.reduceLE, Int.reduceAdd, Int.reduceSub, Int.reduceToNat, Int.reduceNeg, reduceIte, Nat.reduceGT, Nat.reduceLT, Nat.reduceLeDiff, code42_0, code42_1, ty42]
  repeat' ((first
    | ((with_reducible first | apply forkD | apply forkB | apply forkN | apply forkNP | apply forkNot) <;> intro _)
    | with_reducible_and_instances refine W_unroll ?_
    | ((with_reducible_and_instances apply unop_not); (· rfl))) <;> simp -implicitDefEqProofs only [syms, symx, Nat.reduceAdd, Nat.reduceMul, Int.reduceLT, Int.reduceLE, Int.reduceAdd, Int.reduceSub, Int.reduceToNat, Int.reduceNeg, reduceIte, Nat.reduceGT, Nat.reduceLT, Nat.reduceLeDiff, code42_0, code42_1, ty42])
  all_goals first
    | with_reducible exact h2 (by simp [AtomD.light]; omega) _ (z.upW _ _ (by omega))
    | with_reducible exact h1 (by simp [AtomD.light]; omega) _ (z.upW _ _ (by omega))
theorem ok_lights (l : List AtomD) (v : Value) (m : Int) (h : Heap) (hl : Sl Rep.atom h v l) (K : Value → Heap → Prop) (h1 : (l.length : Int) ≤ m → (∀ a ∈ l, a.light = true) → ∀ h', Ext h h' → K (.bool true) h') (h2 : ∀ h', Ext h h' → K (.bool false) h') : Ok Try.prog tab ov 23 [v, .int .i64 m] h K := by
  rw [lay_nil h]
  have z := Ext.refl h
  have hle := hl.le
  refine Ok.into rfl tab_fn23 body23 rfl (m := 20) rfl ?_
  simp -implicitDefEqProofs only [syms, symx, Nat.reduceAdd, Nat.reduceMul, Int.reduceLT, Int.reduceLE, Int.reduceAdd, Int.reduceSub, Int.reduceToNat, Int.reduceNeg, reduceIte, Nat.reduceGT, Nat.reduceLT, Nat.reduceLeDiff, code23_0, code23_1, ty23]
  repeat' ((first
    | ((with_reducible first | apply forkD | apply forkB | apply forkN | apply forkNP | apply forkNot) <;> intro _)
    | with_reducible_and_instances refine ln_rule hl ds23 ?_
    | ((with_reducible_and_instances apply unop_not); (· rfl))) <;> simp -implicitDefEqProofs only [syms, symx, Nat.reduceAdd, Nat.reduceMul, Int.reduceLT, Int.reduceLE, Int.reduceAdd, Int.reduceSub, Int.reduceToNat, Int.reduceNeg, reduceIte, Nat.reduceGT, Nat.reduceLT, Nat.reduceLeDiff, code23_0, code23_1, ty23])
  · exact h2 _ (z.upW _ _ (by omega))
  refine W_loop (fun e h' => ∃ (i : Nat) (h1 : Heap) (x1 x2 x3 x4 x6 x7 x8 x9 x10 x11 x12 x13 x14 x15 x16 x17 x18 x19 x20 x21 : Value), h' = h1.lay [] h1.low ∧ Ext h h1 ∧ i ≤ l.length ∧ (∀ a ∈ l.take i, a.light = true) ∧ e = [v, x1, x2, x3, x4, .int .i64 i, x6, x7, x8, x9, x10, x11, x12, x13, x14, x15, x16, x17, x18, x19, x20, x21]) (fun e _ => match e.get 5 with | .int _ i => l.length - i.toNat | _ => 0) ?_ ?_
  · exact ⟨0, h, _, _, _, _, _, _, _, _, _, _, _, _, _, _, _, _, _, _, _, _, rfl, z, by omega, by simp, rfl⟩
  rintro e h' ⟨i, h1', x1, x2, x3, x4, x6, x7, x8, x9, x10, x11, x12, x13, x14, x15, x16, x17, x18, x19, x20, x21, rfl, z, hi, hall, rfl⟩
  have hw : i < l.length → IntKind.i64.wrap ((i : Int) + 1) = ((i + 1 : Nat) : Int) := fun hh => by unfold maxLen at hle; rw [wrap_i64 (by omega) (by omega)]; omega
  simp -implicitDefEqProofs only [syms, symx, Nat.reduceAdd, Nat.reduceMul, Int.reduceLT, Int.reduceLE, Int.reduceAdd, Int.reduceSub, Int.reduceToNat, Int.reduceNeg, reduceIte, Nat.reduceGT, Nat.reduceLT, Nat.reduceLeDiff, code23_0, code23_1, ty23]
  repeat' ((first
    | ((with_reducible first | apply forkD | apply forkB | apply forkN | apply forkNP | apply forkNot) <;> intro _)
    | with_reducible_and_instances refine ln_rule hl ds23 ?_
    | with_reducible_and_instances refine ixa (hl.mono z.inc) ds23 sz39 (by omega) (by omega) (fun a p ha hp => ?_)
    | with_reducible_and_instances refine lda hp ag39 sz39 ?_
    | ((with_reducible_and_instances refine ok_light _ _ _ (fun hlx h' x => ?_) (fun hlx h' x => ?_)) <;> ((skip); replace z := z.overW x (by (try simp only [lay_size, List.length_cons, List.length_nil]); omega); rw [lay_nil h']))
    | ((with_reducible_and_instances apply unop_not); (· rfl))) <;> simp -implicitDefEqProofs only [syms, symx, Nat.reduceAdd, Nat.reduceMul, Int.reduceLT, Int.reduceLE, Int.reduceAdd, Int.reduceSub, Int.reduceToNat, Int.reduceNeg, reduceIte, Nat.reduceGT, Nat.reduceLT, Nat.reduceLeDiff, code23_0, code23_1, ty23])
  all_goals first
    | with_reducible exact h2 _ (z.upW _ _ (by omega))
    | with_reducible exact h1 (by omega) (by rw [List.take_of_length_le (by omega)] at hall; exact hall) _ (z.upW _ _ (by omega))
    | (rw [hw (by omega)]
       with_reducible refine loopE_normal ?_ ?_
       · exact ⟨i + 1, h', _, _, _, _, _, _, _, _, _, _, _, _, _, _, _, _, _, _, _, _, rfl, z, by omega, take_all ha hall hlx, rfl⟩
       · show l.length - ((i + 1 : Nat) : Int).toNat < l.length - (i : Int).toNat
         omega)
end Go.Proofs.Ytompindebndddaa
namespace Go.Proofs.Ytompindebndddaa
open Go.Am
set_option linter.unusedSimpArgs false
set_option linter.unusedVariables false
set_option maxRecDepth 100000
set_option maxHeartbeats 0
end Go.Proofs.Ytompindebndddaa
namespace Go.Proofs.Ytompindebndddaa
open Go.Am
set_option linter.unusedSimpArgs false
set_option linter.unusedVariables false
set_option maxRecDepth 100000
set_option maxHeartbeats 0
/-- A list in memory of its own. -/
theorem ok_own (l : List AtomD) (v : Value) (h : Heap) (hl : Sl Rep.atom h v l) (hn : l.length ≤ 1000000) (K : Value → Heap → Prop) (hk : ∀ w A h', Ext h h' → Ow Rep.atom h h' 39 A w l → (A < h.size → False) → K w h') : Ok Try.prog tab ov 27 [v] h K := by
  rw [lay_nil h]
  refine Ok.into rfl tab_fn27 body27 rfl (m := 5) rfl ?_
  simp -implicitDefEqProofs only [syms, symx, Nat.reduceAdd, Nat.reduceMul, Int.reduceLT, Int.reduceLE, Int.reduceAdd, Int.reduceSub, Int.reduceToNat, Int.reduceNeg, reduceIte, Nat.reduceGT, Nat.reduceLT, Nat.reduceLeDiff, code27_0, ty27, w_append, sty23]
  obtain ⟨news, hs, hsr⟩ := src_sl (A := h.size + 1) (r := Rep.atom) (by decide) (hl.lay [.row [] 39 false] h.low) (fun cs y hr => hr)
  have f : Ow Rep.atom h (h.lay [.row [] 39 false] h.low) 39 (h.size + 1) (.slice (some ⟨h.size + 0, 0, none⟩) 0 0) [] :=
    .inl ⟨by omega, rfl, .inr ⟨h.size + 0, 0, rfl, by omega, by rw [lay_size]; simp, [], 39, false, by rw [lay_get]; rfl⟩⟩
  obtain ⟨w, h', A', e1, e2, e3, e4, e5⟩ := app_ow (t := 23) ds23 tab_info39 rfl (by decide) (by rw [lay_size]; omega) f hs hsr (by simp only [List.length_nil]; omega) (by simp only [List.length_nil]; omega)
  rw [e1]
  simp -implicitDefEqProofs only [syms, symx, Nat.reduceAdd, Nat.reduceMul, Int.reduceLT, Int.reduceLE, Int.reduceAdd, Int.reduceSub, Int.reduceToNat, Int.reduceNeg, reduceIte, Nat.reduceGT, Nat.reduceLT, Nat.reduceLeDiff, code27_0, ty27]
  exact hk _ _ _ ((Ext.refl h).stepW e3 (by omega) (by omega)) e2 (by omega)
end Go.Proofs.Ytompindebndddaa
namespace Go.Proofs.Ytompindebndddaa
open Go.Am
set_option linter.unusedSimpArgs false
set_option linter.unusedVariables false
set_option maxRecDepth 100000
set_option maxHeartbeats 0
end Go.Proofs.Ytompindebndddaa
namespace Go.Proofs.Ytompindebndddaa
open Go.Am
set_option linter.unusedSimpArgs false
set_option linter.unusedVariables false
set_option maxRecDepth 100000
set_option maxHeartbeats 0
end Go.Proofs.Ytompindebndddaa
namespace Go.Proofs.Ytompindebndddaa
open Go.Am
set_option linter.unusedSimpArgs false
set_option linter.unusedVariables false
set_option maxRecDepth 100000
set_option maxHeartbeats 0
theorem bin_bool_ft : binA Try.prog tab .eql 4 (.bool false) (.bool true) = some (.bool false) := by kernel_rfl
theorem bin_bool_tf : binA Try.prog tab .eql 4 (.bool true) (.bool false) = some (.bool false) := by kernel_rfl
theorem in_next {l : List AtomD} {j : Nat} {x : AtomD} (hj : (j : Int) < (l.length : Int)) (hb : decide (x ∈ l.take j) = false) : decide (l.getD j noAtomD = x) = decide (x ∈ l.take (j + 1)) := by
  have h1 : ¬ x ∈ l.take j := of_decide_eq_false hb
  have h2 : l[j]? = some (l.getD j noAtomD) := getD_at (by omega)
  rw [List.take_add_one, h2]
  congr 1
  simp only [List.mem_append, Option.toList_some, List.mem_singleton, eq_iff_iff]
  constructor
  · intro e
    exact .inr e.symm
  · rintro (e | e)
    · exact absurd e h1
    · exact e.symm
theorem take_mono {l : List AtomD} {j : Nat} {x : AtomD} (h : x ∈ l.take j) : x ∈ l.take (j + 1) := by
  rw [List.take_add_one]
  exact List.mem_append_left _ h
theorem ok_orderSorts (l : List AtomD) (a : AtomD) (v : Value) (h : Heap) (hl : Sl Rep.atom h v l) (K : Value → Heap → Prop)
    (hk : ∀ h', Ext h h' → K (.bool true) h') : Ok Try.prog tab ov 7 [v, a.val] h K := by
  rw [lay_nil h]
  have z := Ext.refl h
  have hva : ∀ (h : Heap) (K : Value → Heap → Prop), valE (some v) h K = K v h := fun _ _ => rfl
  refine Ok.into rfl tab_fn7 body7 rfl (m := 173) rfl ?_
  simp -implicitDefEqProofs only [syms, symx, Nat.reduceAdd, Nat.reduceMul, Int.reduceLT, Int.reduceLE, Int.reduceAdd, Int.reduceSub, Int.reduceToNat, Int.reduceNeg, reduceIte, Nat.reduceGT, Nat.reduceLT, Nat.reduceLeDiff, code7_0, code7_1, code7_2, code7_3, code7_4, code7_5, code7_6, code7_7, code7_8, ty7, cells_atom, hva]
  refine Ok.over (g := trueA) rfl rfl ?_
  simp -implicitDefEqProofs only [syms, symx, Nat.reduceAdd, Nat.reduceMul, Int.reduceLT, Int.reduceLE, Int.reduceAdd, Int.reduceSub, Int.reduceToNat, Int.reduceNeg, reduceIte, Nat.reduceGT, Nat.reduceLT, Nat.reduceLeDiff, code7_0, code7_1, code7_2, code7_3, code7_4, code7_5, code7_6, code7_7, code7_8, ty7, cells_atom, hva]
  repeat' ((first
    | ((with_reducible first | apply forkD | apply forkB | apply forkN | apply forkNP | apply forkNot) <;> intro _)
    | ((with_reducible_and_instances apply unop_not); (· rfl))
    | ((with_reducible refine ⟨z.grw.lay _ _, ?_⟩); (intro _ h' zz x _); (try simp only [lay_lay, List.append_nil] at x); (replace z := zz); (clear zz); rw [lay_nil h'])) <;> simp -implicitDefEqProofs only [syms, symx, Nat.reduceAdd, Nat.reduceMul, Int.reduceLT, Int.reduceLE, Int.reduceAdd, Int.reduceSub, Int.reduceToNat, Int.reduceNeg, reduceIte, Nat.reduceGT, Nat.reduceLT, Nat.reduceLeDiff, code7_0, code7_1, code7_2, code7_3, code7_4, code7_5, code7_6, code7_7, code7_8, ty7, hva])
  refine ok_lights l v 40 _ (hl.lay _ _) _ (fun e1 e2 h' x => ?_) (fun h' x => ?_)
  rotate_left
  · ((first | ((with_reducible refine KOpsX_call ?_ ?_ ?_); (· exact (by (try simp only [lay_size, List.length_cons, List.length_nil]); have := z.size; omega)); (· first | exact x | simpa only [lay_lay, lay_size, List.append_nil, List.length_cons, List.length_nil, Nat.add_zero] using x)) | skip); replace z := z.overW x (by (try simp only [lay_size, List.length_cons, List.length_nil]); omega); rw [lay_nil h'])
    simp -implicitDefEqProofs only [syms, symx, Nat.reduceAdd, Nat.reduceMul, Int.reduceLT, Int.reduceLE, Int.reduceAdd, Int.reduceSub, Int.reduceToNat, Int.reduceNeg, reduceIte, Nat.reduceGT, Nat.reduceLT, Nat.reduceLeDiff, code7_0, code7_1, code7_2, code7_3, code7_4, code7_5, code7_6, code7_7, code7_8, ty7]
    repeat' ((first
      | ((with_reducible first | apply forkD | apply forkB | apply forkN | apply forkNP | apply forkNot) <;> intro _)
      | ((with_reducible_and_instances apply unop_not); (· rfl))
      | ((with_reducible refine ⟨z.grw.lay _ _, ?_⟩); (intro _ h' zz x _); (try simp only [lay_lay, List.append_nil] at x); (replace z := zz); (clear zz); rw [lay_nil h'])) <;> simp -implicitDefEqProofs only [syms, symx, Nat.reduceAdd, Nat.reduceMul, Int.reduceLT, Int.reduceLE, Int.reduceAdd, Int.reduceSub, Int.reduceToNat, Int.reduceNeg, reduceIte, Nat.reduceGT, Nat.reduceLT, Nat.reduceLeDiff, code7_0, code7_1, code7_2, code7_3, code7_4, code7_5, code7_6, code7_7, code7_8, ty7])
    exact hk _ (z.upW _ _ (by omega))
  have q0 := Holds.top (i := 0) x rfl
  ((first | ((with_reducible refine KOpsX_call ?_ ?_ ?_); (· exact (by (try simp only [lay_size, List.length_cons, List.length_nil]); have := z.size; omega)); (· first | exact x | simpa only [lay_lay, lay_size, List.append_nil, List.length_cons, List.length_nil, Nat.add_zero] using x)) | skip); replace z := z.overW x (by (try simp only [lay_size, List.length_cons, List.length_nil]); omega); rw [lay_nil h'])
  simp -implicitDefEqProofs only [syms, symx, Nat.reduceAdd, Nat.reduceMul, Int.reduceLT, Int.reduceLE, Int.reduceAdd, Int.reduceSub, Int.reduceToNat, Int.reduceNeg, reduceIte, Nat.reduceGT, Nat.reduceLT, Nat.reduceLeDiff, code7_0, code7_1, code7_2, code7_3, code7_4, code7_5, code7_6, code7_7, code7_8, ty7, q0.lay, cells_atom, ↓cut_atom, agg_atom, valE_atom]
  repeat' ((first
    | ((with_reducible first | apply forkD | apply forkB | apply forkN | apply forkNP | apply forkNot) <;> intro _)
    | ((with_reducible_and_instances apply unop_not); (· rfl))
    | ((with_reducible refine ⟨z.grw.lay _ _, ?_⟩); (intro _ h' zz x _); (try simp only [lay_lay, List.append_nil] at x); (try replace q0 := q0.over x); (replace z := zz); (clear zz); rw [lay_nil h'])) <;> simp -implicitDefEqProofs only [syms, symx, Nat.reduceAdd, Nat.reduceMul, Int.reduceLT, Int.reduceLE, Int.reduceAdd, Int.reduceSub, Int.reduceToNat, Int.reduceNeg, reduceIte, Nat.reduceGT, Nat.reduceLT, Nat.reduceLeDiff, code7_0, code7_1, code7_2, code7_3, code7_4, code7_5, code7_6, code7_7, code7_8, ty7, q0.lay, cells_atom, ↓cut_atom, agg_atom, valE_atom])
  refine ok_light a _ _ (fun e3 h' x => ?_) (fun e3 h' x => ?_)
  rotate_left
  · ((first | ((with_reducible refine KOpsX_call ?_ ?_ ?_); (· exact (by (try simp only [lay_size, List.length_cons, List.length_nil]); have := z.size; omega)); (· first | exact x | simpa only [lay_lay, lay_size, List.append_nil, List.length_cons, List.length_nil, Nat.add_zero] using x)) | skip); replace z := z.overW x (by (try simp only [lay_size, List.length_cons, List.length_nil]); omega); (try replace q0 := q0.over x); rw [lay_nil h'])
    simp -implicitDefEqProofs only [syms, symx, Nat.reduceAdd, Nat.reduceMul, Int.reduceLT, Int.reduceLE, Int.reduceAdd, Int.reduceSub, Int.reduceToNat, Int.reduceNeg, reduceIte, Nat.reduceGT, Nat.reduceLT, Nat.reduceLeDiff, code7_0, code7_1, code7_2, code7_3, code7_4, code7_5, code7_6, code7_7, code7_8, ty7]
    repeat' ((first
      | ((with_reducible first | apply forkD | apply forkB | apply forkN | apply forkNP | apply forkNot) <;> intro _)
      | ((with_reducible_and_instances apply unop_not); (· rfl))
      | ((with_reducible refine ⟨z.grw.lay _ _, ?_⟩); (intro _ h' zz x _); (try simp only [lay_lay, List.append_nil] at x); (try replace q0 := q0.over x); (replace z := zz); (clear zz); rw [lay_nil h'])) <;> simp -implicitDefEqProofs only [syms, symx, Nat.reduceAdd, Nat.reduceMul, Int.reduceLT, Int.reduceLE, Int.reduceAdd, Int.reduceSub, Int.reduceToNat, Int.reduceNeg, reduceIte, Nat.reduceGT, Nat.reduceLT, Nat.reduceLeDiff, code7_0, code7_1, code7_2, code7_3, code7_4, code7_5, code7_6, code7_7, code7_8, ty7])
    exact hk _ (z.upW _ _ (by omega))
  ((first | ((with_reducible refine KOpsX_call ?_ ?_ ?_); (· exact (by (try simp only [lay_size, List.length_cons, List.length_nil]); have := z.size; omega)); (· first | exact x | simpa only [lay_lay, lay_size, List.append_nil, List.length_cons, List.length_nil, Nat.add_zero] using x)) | skip); replace z := z.overW x (by (try simp only [lay_size, List.length_cons, List.length_nil]); omega); (try replace q0 := q0.over x); rw [lay_nil h'])
  simp -implicitDefEqProofs only [syms, symx, Nat.reduceAdd, Nat.reduceMul, Int.reduceLT, Int.reduceLE, Int.reduceAdd, Int.reduceSub, Int.reduceToNat, Int.reduceNeg, reduceIte, Nat.reduceGT, Nat.reduceLT, Nat.reduceLeDiff, code7_0, code7_1, code7_2, code7_3, code7_4, code7_5, code7_6, code7_7, code7_8, ty7, q0.lay, cells_atom, ↓cut_atom, agg_atom, valE_atom]
  repeat' ((first
    | ((with_reducible first | apply forkD | apply forkB | apply forkN | apply forkNP | apply forkNot) <;> intro _)
    | ((with_reducible_and_instances apply unop_not); (· rfl))
    | ((with_reducible refine ⟨z.grw.lay _ _, ?_⟩); (intro _ h' zz x _); (try simp only [lay_lay, List.append_nil] at x); (try replace q0 := q0.over x); (replace z := zz); (clear zz); rw [lay_nil h'])) <;> simp -implicitDefEqProofs only [syms, symx, Nat.reduceAdd, Nat.reduceMul, Int.reduceLT, Int.reduceLE, Int.reduceAdd, Int.reduceSub, Int.reduceToNat, Int.reduceNeg, reduceIte, Nat.reduceGT, Nat.reduceLT, Nat.reduceLeDiff, code7_0, code7_1, code7_2, code7_3, code7_4, code7_5, code7_6, code7_7, code7_8, ty7, q0.lay, cells_atom, ↓cut_atom, agg_atom, valE_atom])
  refine ok_validA a _ _ (fun e4 h' x => ?_) (fun c h' hc x => ?_)
  rotate_left
  · ((first | ((with_reducible refine KOpsX_call ?_ ?_ ?_); (· exact (by (try simp only [lay_size, List.length_cons, List.length_nil]); have := z.size; omega)); (· first | exact x | simpa only [lay_lay, lay_size, List.append_nil, List.length_cons, List.length_nil, Nat.add_zero] using x)) | skip); replace z := z.overW x (by (try simp only [lay_size, List.length_cons, List.length_nil]); omega); (try replace q0 := q0.over x); rw [lay_nil h'])
    simp -implicitDefEqProofs only [syms, symx, Nat.reduceAdd, Nat.reduceMul, Int.reduceLT, Int.reduceLE, Int.reduceAdd, Int.reduceSub, Int.reduceToNat, Int.reduceNeg, reduceIte, Nat.reduceGT, Nat.reduceLT, Nat.reduceLeDiff, code7_0, code7_1, code7_2, code7_3, code7_4, code7_5, code7_6, code7_7, code7_8, ty7]
    refine forkN (fun _ => ?_) (fun hh => absurd hh hc)
    simp -implicitDefEqProofs only [syms, symx, Nat.reduceAdd, Nat.reduceMul, Int.reduceLT, Int.reduceLE, Int.reduceAdd, Int.reduceSub, Int.reduceToNat, Int.reduceNeg, reduceIte, Nat.reduceGT, Nat.reduceLT, Nat.reduceLeDiff, code7_0, code7_1, code7_2, code7_3, code7_4, code7_5, code7_6, code7_7, code7_8, ty7]
    repeat' ((first
      | ((with_reducible first | apply forkD | apply forkB | apply forkN | apply forkNP | apply forkNot) <;> intro _)
      | ((with_reducible_and_instances apply unop_not); (· rfl))
      | ((with_reducible refine ⟨z.grw.lay _ _, ?_⟩); (intro _ h' zz x _); (try simp only [lay_lay, List.append_nil] at x); (try replace q0 := q0.over x); (replace z := zz); (clear zz); rw [lay_nil h'])) <;> simp -implicitDefEqProofs only [syms, symx, Nat.reduceAdd, Nat.reduceMul, Int.reduceLT, Int.reduceLE, Int.reduceAdd, Int.reduceSub, Int.reduceToNat, Int.reduceNeg, reduceIte, Nat.reduceGT, Nat.reduceLT, Nat.reduceLeDiff, code7_0, code7_1, code7_2, code7_3, code7_4, code7_5, code7_6, code7_7, code7_8, ty7])
    exact hk _ (z.upW _ _ (by omega))
  ((first | ((with_reducible refine KOpsX_call ?_ ?_ ?_); (· exact (by (try simp only [lay_size, List.length_cons, List.length_nil]); have := z.size; omega)); (· first | exact x | simpa only [lay_lay, lay_size, List.append_nil, List.length_cons, List.length_nil, Nat.add_zero] using x)) | skip); replace z := z.overW x (by (try simp only [lay_size, List.length_cons, List.length_nil]); omega); (try replace q0 := q0.over x); rw [lay_nil h'])
  simp -implicitDefEqProofs only [syms, symx, Nat.reduceAdd, Nat.reduceMul, Int.reduceLT, Int.reduceLE, Int.reduceAdd, Int.reduceSub, Int.reduceToNat, Int.reduceNeg, reduceIte, Nat.reduceGT, Nat.reduceLT, Nat.reduceLeDiff, code7_0, code7_1, code7_2, code7_3, code7_4, code7_5, code7_6, code7_7, code7_8, ty7]
  refine forkN (fun hh => absurd rfl hh) (fun _ => ?_)
  simp -implicitDefEqProofs only [syms, symx, Nat.reduceAdd, Nat.reduceMul, Int.reduceLT, Int.reduceLE, Int.reduceAdd, Int.reduceSub, Int.reduceToNat, Int.reduceNeg, reduceIte, Nat.reduceGT, Nat.reduceLT, Nat.reduceLeDiff, code7_0, code7_1, code7_2, code7_3, code7_4, code7_5, code7_6, code7_7, code7_8, ty7]
  repeat' ((first
    | ((with_reducible first | apply forkD | apply forkB | apply forkN | apply forkNP | apply forkNot) <;> intro _)
    | ((with_reducible_and_instances apply unop_not); (· rfl))
    | ((with_reducible refine ⟨z.grw.lay _ _, ?_⟩); (intro _ h' zz x _); (try simp only [lay_lay, List.append_nil] at x); (try replace q0 := q0.over x); (replace z := zz); (clear zz); rw [lay_nil h'])) <;> simp -implicitDefEqProofs only [syms, symx, Nat.reduceAdd, Nat.reduceMul, Int.reduceLT, Int.reduceLE, Int.reduceAdd, Int.reduceSub, Int.reduceToNat, Int.reduceNeg, reduceIte, Nat.reduceGT, Nat.reduceLT, Nat.reduceLeDiff, code7_0, code7_1, code7_2, code7_3, code7_4, code7_5, code7_6, code7_7, code7_8, ty7])
  have hln := fun (hh : Heap) => hl.lenA ds23 hh
  obtain ⟨I1, hI1⟩ : ∃ I : Nat → Env → Heap → Prop, I = (fun n e h' => ∃ (i : Nat) (h1 : Heap), h' = h1.lay [] h1.low ∧ Ext h h1 ∧ (n = l.length - i ∧ i ≤ l.length ∧ Holds h1 (h.size + 0) (.row a.cells 39 false)) ∧ ∃ J : Nat → Value, e = (v :: J 1 :: J 2 :: .pointer (some ⟨h.size + 0, 0, none⟩) :: J 4 :: .int .i64 i :: J 6 :: J 7 :: J 8 :: J 9 :: J 10 :: J 11 :: J 12 :: J 13 :: J 14 :: J 15 :: J 16 :: J 17 :: J 18 :: J 19 :: J 20 :: J 21 :: J 22 :: J 23 :: J 24 :: J 25 :: J 26 :: J 27 :: J 28 :: J 29 :: J 30 :: J 31 :: J 32 :: J 33 :: J 34 :: J 35 :: J 36 :: J 37 :: J 38 :: J 39 :: J 40 :: J 41 :: J 42 :: J 43 :: J 44 :: J 45 :: J 46 :: J 47 :: J 48 :: J 49 :: J 50 :: J 51 :: J 52 :: J 53 :: J 54 :: J 55 :: J 56 :: J 57 :: J 58 :: J 59 :: J 60 :: J 61 :: J 62 :: J 63 :: J 64 :: J 65 :: J 66 :: J 67 :: J 68 :: J 69 :: J 70 :: J 71 :: J 72 :: J 73 :: J 74 :: J 75 :: J 76 :: J 77 :: J 78 :: J 79 :: J 80 :: J 81 :: J 82 :: J 83 :: J 84 :: J 85 :: J 86 :: J 87 :: J 88 :: J 89 :: J 90 :: J 91 :: J 92 :: J 93 :: J 94 :: J 95 :: J 96 :: J 97 :: J 98 :: J 99 :: J 100 :: J 101 :: J 102 :: J 103 :: J 104 :: J 105 :: J 106 :: J 107 :: J 108 :: J 109 :: J 110 :: J 111 :: J 112 :: J 113 :: J 114 :: J 115 :: J 116 :: J 117 :: J 118 :: J 119 :: J 120 :: J 121 :: J 122 :: J 123 :: J 124 :: J 125 :: J 126 :: J 127 :: J 128 :: J 129 :: J 130 :: J 131 :: J 132 :: J 133 :: J 134 :: J 135 :: J 136 :: J 137 :: J 138 :: J 139 :: J 140 :: J 141 :: J 142 :: J 143 :: J 144 :: J 145 :: J 146 :: J 147 :: J 148 :: J 149 :: J 150 :: J 151 :: J 152 :: J 153 :: J 154 :: J 155 :: J 156 :: J 157 :: J 158 :: J 159 :: J 160 :: J 161 :: J 162 :: J 163 :: J 164 :: J 165 :: J 166 :: J 167 :: J 168 :: J 169 :: J 170 :: J 171 :: J 172 :: J 173 :: J 174 :: [])) := ⟨_, rfl⟩
  refine W_loopN I1 _ (by rw [hI1]; exact ⟨0, _, rfl, z, ⟨rfl, by omega, q0⟩, junk (by kernel_rfl)⟩) ?_
  intro n e h' hin
  rw [hI1] at hin
  obtain ⟨i, h1', rfl, z, hinv, J, rfl⟩ := hin
  clear q0
  obtain ⟨rfl, hi, q0⟩ := hinv
  have hwi : IntKind.i64.wrap ((i : Int) + 1) = ((i + 1 : Nat) : Int) := by rw [wrap_i64 (by omega) (by omega)]; omega
  simp -implicitDefEqProofs only [syms, symx, Nat.reduceAdd, Nat.reduceMul, Int.reduceLT, Int.reduceLE, Int.reduceAdd, Int.reduceSub, Int.reduceToNat, Int.reduceNeg, reduceIte, Nat.reduceGT, Nat.reduceLT, Nat.reduceLeDiff, code7_0, code7_1, code7_2, code7_3, code7_4, code7_5, code7_6, code7_7, code7_8, ty7, hva, hln]
  refine forkD (fun hlt1 => ?_) (fun hlt1 => ?_)
  · have hr : l[(i : Int).toNat]? = some (l.getD i noAtomD) := getD_at (by omega)
    simp -implicitDefEqProofs only [syms, symx, Nat.reduceAdd, Nat.reduceMul, Int.reduceLT, Int.reduceLE, Int.reduceAdd, Int.reduceSub, Int.reduceToNat, Int.reduceNeg, reduceIte, Nat.reduceGT, Nat.reduceLT, Nat.reduceLeDiff, code7_0, code7_1, code7_2, code7_3, code7_4, code7_5, code7_6, code7_7, code7_8, ty7, hva]
    repeat' ((first
      | ((with_reducible first | apply forkD | apply forkB | apply forkN | apply forkNP | apply forkNot) <;> intro _)
      | with_reducible_and_instances refine ixa_at (hl.mono z.inc) ds23 sz39 (by omega) hr (fun p hp => ?_)
      | with_reducible_and_instances refine lda hp ag39 sz39 ?_
      | ((with_reducible_and_instances apply unop_not); (· rfl))
      | ((with_reducible refine ⟨z.grw.lay _ _, ?_⟩); (intro _ h' zz x _); (try simp only [lay_lay, List.append_nil] at x); (try replace q0 := q0.over x); (replace z := zz); (clear zz); rw [lay_nil h'])) <;> simp -implicitDefEqProofs only [syms, symx, Nat.reduceAdd, Nat.reduceMul, Int.reduceLT, Int.reduceLE, Int.reduceAdd, Int.reduceSub, Int.reduceToNat, Int.reduceNeg, reduceIte, Nat.reduceGT, Nat.reduceLT, Nat.reduceLeDiff, code7_0, code7_1, code7_2, code7_3, code7_4, code7_5, code7_6, code7_7, code7_8, ty7, hva])
    refine ok_validA _ _ _ (fun hv h' x => ?_) (fun c h' hc x => ?_)
    · ((first | ((with_reducible refine KOpsX_call ?_ ?_ ?_); (· exact (by (try simp only [lay_size, List.length_cons, List.length_nil]); have := z.size; omega)); (· first | exact x | simpa only [lay_lay, lay_size, List.append_nil, List.length_cons, List.length_nil, Nat.add_zero] using x)) | skip); replace z := z.overW x (by (try simp only [lay_size, List.length_cons, List.length_nil]); omega); (try replace q0 := q0.over x); rw [lay_nil h'])
      simp -implicitDefEqProofs only [syms, symx, Nat.reduceAdd, Nat.reduceMul, Int.reduceLT, Int.reduceLE, Int.reduceAdd, Int.reduceSub, Int.reduceToNat, Int.reduceNeg, reduceIte, Nat.reduceGT, Nat.reduceLT, Nat.reduceLeDiff, code7_0, code7_1, code7_2, code7_3, code7_4, code7_5, code7_6, code7_7, code7_8, ty7]
      refine forkN (fun hh => absurd rfl hh) (fun _ => ?_)
      simp -implicitDefEqProofs only [syms, symx, Nat.reduceAdd, Nat.reduceMul, Int.reduceLT, Int.reduceLE, Int.reduceAdd, Int.reduceSub, Int.reduceToNat, Int.reduceNeg, reduceIte, Nat.reduceGT, Nat.reduceLT, Nat.reduceLeDiff, code7_0, code7_1, code7_2, code7_3, code7_4, code7_5, code7_6, code7_7, code7_8, ty7]
      repeat' ((first
        | ((with_reducible first | apply forkD | apply forkB | apply forkN | apply forkNP | apply forkNot) <;> intro _)
        | with_reducible_and_instances refine ixa_at (hl.mono z.inc) ds23 sz39 (by omega) hr (fun p hp => ?_)
        | with_reducible_and_instances refine lda hp ag39 sz39 ?_
        | ((with_reducible_and_instances apply unop_not); (· rfl))
        | ((with_reducible refine ⟨z.grw.lay _ _, ?_⟩); (intro _ h' zz x _); (try simp only [lay_lay, List.append_nil] at x); (try replace q0 := q0.over x); (replace z := zz); (clear zz); rw [lay_nil h'])) <;> simp -implicitDefEqProofs only [syms, symx, Nat.reduceAdd, Nat.reduceMul, Int.reduceLT, Int.reduceLE, Int.reduceAdd, Int.reduceSub, Int.reduceToNat, Int.reduceNeg, reduceIte, Nat.reduceGT, Nat.reduceLT, Nat.reduceLeDiff, code7_0, code7_1, code7_2, code7_3, code7_4, code7_5, code7_6, code7_7, code7_8, ty7])
      rw [hwi]
      (rw [hI1]; with_reducible refine loopN_normal (m := _) ?_ ⟨i + 1, _, rfl, z, ⟨rfl, by omega, q0⟩, junk (by kernel_rfl)⟩; omega)
    · ((first | ((with_reducible refine KOpsX_call ?_ ?_ ?_); (· exact (by (try simp only [lay_size, List.length_cons, List.length_nil]); have := z.size; omega)); (· first | exact x | simpa only [lay_lay, lay_size, List.append_nil, List.length_cons, List.length_nil, Nat.add_zero] using x)) | skip); replace z := z.overW x (by (try simp only [lay_size, List.length_cons, List.length_nil]); omega); (try replace q0 := q0.over x); rw [lay_nil h'])
      simp -implicitDefEqProofs only [syms, symx, Nat.reduceAdd, Nat.reduceMul, Int.reduceLT, Int.reduceLE, Int.reduceAdd, Int.reduceSub, Int.reduceToNat, Int.reduceNeg, reduceIte, Nat.reduceGT, Nat.reduceLT, Nat.reduceLeDiff, code7_0, code7_1, code7_2, code7_3, code7_4, code7_5, code7_6, code7_7, code7_8, ty7]
      refine forkN (fun _ => ?_) (fun hh => absurd hh hc)
      simp -implicitDefEqProofs only [syms, symx, Nat.reduceAdd, Nat.reduceMul, Int.reduceLT, Int.reduceLE, Int.reduceAdd, Int.reduceSub, Int.reduceToNat, Int.reduceNeg, reduceIte, Nat.reduceGT, Nat.reduceLT, Nat.reduceLeDiff, code7_0, code7_1, code7_2, code7_3, code7_4, code7_5, code7_6, code7_7, code7_8, ty7]
      repeat' ((first
        | ((with_reducible first | apply forkD | apply forkB | apply forkN | apply forkNP | apply forkNot) <;> intro _)
        | with_reducible_and_instances refine ixa_at (hl.mono z.inc) ds23 sz39 (by omega) hr (fun p hp => ?_)
        | with_reducible_and_instances refine lda hp ag39 sz39 ?_
        | ((with_reducible_and_instances apply unop_not); (· rfl))
        | ((with_reducible refine ⟨z.grw.lay _ _, ?_⟩); (intro _ h' zz x _); (try simp only [lay_lay, List.append_nil] at x); (try replace q0 := q0.over x); (replace z := zz); (clear zz); rw [lay_nil h'])) <;> simp -implicitDefEqProofs only [syms, symx, Nat.reduceAdd, Nat.reduceMul, Int.reduceLT, Int.reduceLE, Int.reduceAdd, Int.reduceSub, Int.reduceToNat, Int.reduceNeg, reduceIte, Nat.reduceGT, Nat.reduceLT, Nat.reduceLeDiff, code7_0, code7_1, code7_2, code7_3, code7_4, code7_5, code7_6, code7_7, code7_8, ty7])
      exact hk _ (z.upW _ _ (by omega))
  clear hI1
  simp -implicitDefEqProofs only [syms, symx, Nat.reduceAdd, Nat.reduceMul, Int.reduceLT, Int.reduceLE, Int.reduceAdd, Int.reduceSub, Int.reduceToNat, Int.reduceNeg, reduceIte, Nat.reduceGT, Nat.reduceLT, Nat.reduceLeDiff, code7_0, code7_1, code7_2, code7_3, code7_4, code7_5, code7_6, code7_7, code7_8, ty7, hva]
  repeat' ((first
    | ((with_reducible first | apply forkD | apply forkB | apply forkN | apply forkNP | apply forkNot) <;> intro _)
    | with_reducible_and_instances refine ixa_at (hl.mono z.inc) ds23 sz39 (by omega) hr (fun p hp => ?_)
    | with_reducible_and_instances refine lda hp ag39 sz39 ?_
    | ((with_reducible_and_instances apply unop_not); (· rfl))
    | ((with_reducible refine ⟨z.grw.lay _ _, ?_⟩); (intro _ h' zz x _); (try simp only [lay_lay, List.append_nil] at x); (try replace q0 := q0.over x); (replace z := zz); (clear zz); rw [lay_nil h'])) <;> simp -implicitDefEqProofs only [syms, symx, Nat.reduceAdd, Nat.reduceMul, Int.reduceLT, Int.reduceLE, Int.reduceAdd, Int.reduceSub, Int.reduceToNat, Int.reduceNeg, reduceIte, Nat.reduceGT, Nat.reduceLT, Nat.reduceLeDiff, code7_0, code7_1, code7_2, code7_3, code7_4, code7_5, code7_6, code7_7, code7_8, ty7, hva])
  refine ok_own l v _ ((hl.mono z.inc).lay _ _) (by omega) _ (fun w4 A4 h' x o4 hA4 => ?_)
  have s4 := o4.sl (by decide)
  ((first | ((with_reducible refine KOpsX_call ?_ ?_ ?_); (· exact (by (try simp only [lay_size, List.length_cons, List.length_nil]); have := z.size; omega)); (· first | exact x | simpa only [lay_lay, lay_size, List.append_nil, List.length_cons, List.length_nil, Nat.add_zero] using x)) | skip); replace z := z.overW x (by (try simp only [lay_size, List.length_cons, List.length_nil]); omega); (try replace q0 := q0.over x); rw [lay_nil h'])
  have hv4 : ∀ (h : Heap) (K : Value → Heap → Prop), valE (some w4) h K = K w4 h := fun _ _ => rfl
  simp -implicitDefEqProofs only [syms, symx, Nat.reduceAdd, Nat.reduceMul, Int.reduceLT, Int.reduceLE, Int.reduceAdd, Int.reduceSub, Int.reduceToNat, Int.reduceNeg, reduceIte, Nat.reduceGT, Nat.reduceLT, Nat.reduceLeDiff, code7_0, code7_1, code7_2, code7_3, code7_4, code7_5, code7_6, code7_7, code7_8, ty7, hv4]
  repeat' ((first
    | ((with_reducible first | apply forkD | apply forkB | apply forkN | apply forkNP | apply forkNot) <;> intro _)
    | with_reducible_and_instances refine ixa_at (hl.mono z.inc) ds23 sz39 (by omega) hr (fun p hp => ?_)
    | with_reducible_and_instances refine lda hp ag39 sz39 ?_
    | ((with_reducible_and_instances apply unop_not); (· rfl))
    | ((with_reducible refine ⟨z.grw.lay _ _, ?_⟩); (intro _ h' zz x _); (try simp only [lay_lay, List.append_nil] at x); (try replace q0 := q0.over x); (replace z := zz); (clear zz); rw [lay_nil h'])) <;> simp -implicitDefEqProofs only [syms, symx, Nat.reduceAdd, Nat.reduceMul, Int.reduceLT, Int.reduceLE, Int.reduceAdd, Int.reduceSub, Int.reduceToNat, Int.reduceNeg, reduceIte, Nat.reduceGT, Nat.reduceLT, Nat.reduceLeDiff, code7_0, code7_1, code7_2, code7_3, code7_4, code7_5, code7_6, code7_7, code7_8, ty7, hv4])
  refine ok_sorted l w4 _ (s4.lay _ _) (by omega) e2 _ (fun h' ws x os => ?_)
  replace os := os.sl
  ((first | ((with_reducible refine KOpsX_call ?_ ?_ ?_); (· exact (by (try simp only [lay_size, List.length_cons, List.length_nil]); have := z.size; omega)); (· first | exact x | simpa only [lay_lay, lay_size, List.append_nil, List.length_cons, List.length_nil, Nat.add_zero] using x)) | skip); replace z := z.overW x (by (try simp only [lay_size, List.length_cons, List.length_nil]); omega); (try replace q0 := q0.over x); rw [lay_nil h'])
  have hlls := sortA_length l
  have hlight := sortA_light e2
  have hasc := (sortA_of l).asc
  have hhas : ∀ x ∈ l, hasA (sortA l) x = true := fun x hx => by
    rw [hasA_sort]
    exact hasA_iff.2 ⟨x, hx, rfl⟩
  have hmem : ∀ x ∈ sortA l, x ∈ l := fun x hx => (sortA_of l).mem hx
  generalize sortA l = s at *
  have hvs : ∀ (h : Heap) (K : Value → Heap → Prop), valE (some ws) h K = K ws h := fun _ _ => rfl
  simp -implicitDefEqProofs only [syms, symx, Nat.reduceAdd, Nat.reduceMul, Int.reduceLT, Int.reduceLE, Int.reduceAdd, Int.reduceSub, Int.reduceToNat, Int.reduceNeg, reduceIte, Nat.reduceGT, Nat.reduceLT, Nat.reduceLeDiff, code7_0, code7_1, code7_2, code7_3, code7_4, code7_5, code7_6, code7_7, code7_8, ty7, hvs]
  repeat' ((first
    | ((with_reducible first | apply forkD | apply forkB | apply forkN | apply forkNP | apply forkNot) <;> intro _)
    | with_reducible_and_instances refine ixa_at (hl.mono z.inc) ds23 sz39 (by omega) hr (fun p hp => ?_)
    | with_reducible_and_instances refine lda hp ag39 sz39 ?_
    | ((with_reducible_and_instances apply unop_not); (· rfl))
    | ((with_reducible refine ⟨z.grw.lay _ _, ?_⟩); (intro _ h' zz x _); (try simp only [lay_lay, List.append_nil] at x); (try replace q0 := q0.over x); (replace z := zz); (clear zz); rw [lay_nil h'])) <;> simp -implicitDefEqProofs only [syms, symx, Nat.reduceAdd, Nat.reduceMul, Int.reduceLT, Int.reduceLE, Int.reduceAdd, Int.reduceSub, Int.reduceToNat, Int.reduceNeg, reduceIte, Nat.reduceGT, Nat.reduceLT, Nat.reduceLeDiff, code7_0, code7_1, code7_2, code7_3, code7_4, code7_5, code7_6, code7_7, code7_8, ty7, hvs])
  refine ok_is s ws _ (os.lay _ _) (by omega) hlight _ (fun h' x => ?_)
  rw [isA_iff.2 hasc]
  ((first | ((with_reducible refine KOpsX_call ?_ ?_ ?_); (· exact (by (try simp only [lay_size, List.length_cons, List.length_nil]); have := z.size; omega)); (· first | exact x | simpa only [lay_lay, lay_size, List.append_nil, List.length_cons, List.length_nil, Nat.add_zero] using x)) | skip); replace z := z.overW x (by (try simp only [lay_size, List.length_cons, List.length_nil]); omega); (try replace q0 := q0.over x); (try replace os := os.over x); rw [lay_nil h'])
  have hlns := fun (hh : Heap) => os.lenA ds23 hh
  simp -implicitDefEqProofs only [syms, symx, Nat.reduceAdd, Nat.reduceMul, Int.reduceLT, Int.reduceLE, Int.reduceAdd, Int.reduceSub, Int.reduceToNat, Int.reduceNeg, reduceIte, Nat.reduceGT, Nat.reduceLT, Nat.reduceLeDiff, code7_0, code7_1, code7_2, code7_3, code7_4, code7_5, code7_6, code7_7, code7_8, ty7, hva, hvs, hln, hlns]
  repeat' ((first
    | ((with_reducible first | apply forkD | apply forkB | apply forkN | apply forkNP | apply forkNot) <;> intro _)
    | with_reducible_and_instances refine ixa_at (hl.mono z.inc) ds23 sz39 (by omega) hr (fun p hp => ?_)
    | with_reducible_and_instances refine lda hp ag39 sz39 ?_
    | ((with_reducible_and_instances apply unop_not); (· rfl))
    | ((with_reducible refine ⟨z.grw.lay _ _, ?_⟩); (intro _ h' zz x _); (try simp only [lay_lay, List.append_nil] at x); (try replace q0 := q0.over x); (try replace os := os.over x); (replace z := zz); (clear zz); rw [lay_nil h'])) <;> simp -implicitDefEqProofs only [syms, symx, Nat.reduceAdd, Nat.reduceMul, Int.reduceLT, Int.reduceLE, Int.reduceAdd, Int.reduceSub, Int.reduceToNat, Int.reduceNeg, reduceIte, Nat.reduceGT, Nat.reduceLT, Nat.reduceLeDiff, code7_0, code7_1, code7_2, code7_3, code7_4, code7_5, code7_6, code7_7, code7_8, ty7, hva, hvs, hln, hlns])
  all_goals try (exfalso; omega)
  obtain ⟨I2, hI2⟩ : ∃ I : Nat → Env → Heap → Prop, I = (fun n e h' => ∃ (i : Nat) (h1 : Heap), h' = h1.lay [] h1.low ∧ Ext h h1 ∧ (n = l.length - i ∧ i ≤ l.length ∧ Holds h1 (h.size + 0) (.row a.cells 39 false) ∧ Sl Rep.atom h1 ws s) ∧ ∃ J : Nat → Value, e = (v :: J 1 :: J 2 :: .pointer (some ⟨h.size + 0, 0, none⟩) :: J 4 :: J 5 :: ws :: .int .i64 i :: J 8 :: J 9 :: J 10 :: J 11 :: J 12 :: J 13 :: J 14 :: J 15 :: J 16 :: J 17 :: J 18 :: J 19 :: J 20 :: J 21 :: J 22 :: J 23 :: J 24 :: J 25 :: J 26 :: J 27 :: J 28 :: J 29 :: J 30 :: J 31 :: J 32 :: J 33 :: J 34 :: J 35 :: J 36 :: J 37 :: J 38 :: J 39 :: J 40 :: J 41 :: J 42 :: J 43 :: J 44 :: J 45 :: J 46 :: J 47 :: J 48 :: J 49 :: J 50 :: J 51 :: J 52 :: J 53 :: J 54 :: J 55 :: J 56 :: J 57 :: J 58 :: J 59 :: J 60 :: J 61 :: J 62 :: J 63 :: J 64 :: J 65 :: J 66 :: J 67 :: J 68 :: J 69 :: J 70 :: J 71 :: J 72 :: J 73 :: J 74 :: J 75 :: J 76 :: J 77 :: J 78 :: J 79 :: J 80 :: J 81 :: J 82 :: J 83 :: J 84 :: J 85 :: J 86 :: J 87 :: J 88 :: J 89 :: J 90 :: J 91 :: J 92 :: J 93 :: J 94 :: J 95 :: J 96 :: J 97 :: J 98 :: J 99 :: J 100 :: J 101 :: J 102 :: J 103 :: J 104 :: J 105 :: J 106 :: J 107 :: J 108 :: J 109 :: J 110 :: J 111 :: J 112 :: J 113 :: J 114 :: J 115 :: J 116 :: J 117 :: J 118 :: J 119 :: J 120 :: J 121 :: J 122 :: J 123 :: J 124 :: J 125 :: J 126 :: J 127 :: J 128 :: J 129 :: J 130 :: J 131 :: J 132 :: J 133 :: J 134 :: J 135 :: J 136 :: J 137 :: J 138 :: J 139 :: J 140 :: J 141 :: J 142 :: J 143 :: J 144 :: J 145 :: J 146 :: J 147 :: J 148 :: J 149 :: J 150 :: J 151 :: J 152 :: J 153 :: J 154 :: J 155 :: J 156 :: J 157 :: J 158 :: J 159 :: J 160 :: J 161 :: J 162 :: J 163 :: J 164 :: J 165 :: J 166 :: J 167 :: J 168 :: J 169 :: J 170 :: J 171 :: J 172 :: J 173 :: J 174 :: [])) := ⟨_, rfl⟩
  refine W_loopN I2 _ (by rw [hI2]; exact ⟨0, _, rfl, z, ⟨rfl, by omega, q0, os⟩, junk (by kernel_rfl)⟩) ?_
  intro n e h' hin
  rw [hI2] at hin
  obtain ⟨i, h2', rfl, z, hinv, J, rfl⟩ := hin
  clear q0 os
  obtain ⟨rfl, hi, q0, os⟩ := hinv
  have hwi : IntKind.i64.wrap ((i : Int) + 1) = ((i + 1 : Nat) : Int) := by rw [wrap_i64 (by omega) (by omega)]; omega
  simp -implicitDefEqProofs only [syms, symx, Nat.reduceAdd, Nat.reduceMul, Int.reduceLT, Int.reduceLE, Int.reduceAdd, Int.reduceSub, Int.reduceToNat, Int.reduceNeg, reduceIte, Nat.reduceGT, Nat.reduceLT, Nat.reduceLeDiff, code7_0, code7_1, code7_2, code7_3, code7_4, code7_5, code7_6, code7_7, code7_8, ty7, hva, hvs, hln]
  refine forkD (fun hlt1 => ?_) (fun hlt1 => ?_)
  · have hr : l[(i : Int).toNat]? = some (l.getD i noAtomD) := getD_at (by omega)
    have hm : l.getD i noAtomD ∈ l := List.mem_of_getElem? hr
    simp -implicitDefEqProofs only [syms, symx, Nat.reduceAdd, Nat.reduceMul, Int.reduceLT, Int.reduceLE, Int.reduceAdd, Int.reduceSub, Int.reduceToNat, Int.reduceNeg, reduceIte, Nat.reduceGT, Nat.reduceLT, Nat.reduceLeDiff, code7_0, code7_1, code7_2, code7_3, code7_4, code7_5, code7_6, code7_7, code7_8, ty7, hva, hvs]
    repeat' ((first
      | ((with_reducible first | apply forkD | apply forkB | apply forkN | apply forkNP | apply forkNot) <;> intro _)
      | with_reducible_and_instances refine ixa_at (hl.mono z.inc) ds23 sz39 (by omega) hr (fun p hp => ?_)
      | with_reducible_and_instances refine lda hp ag39 sz39 ?_
      | ((with_reducible_and_instances apply unop_not); (· rfl))
      | ((with_reducible refine ⟨z.grw.lay _ _, ?_⟩); (intro _ h' zz x _); (try simp only [lay_lay, List.append_nil] at x); (try replace q0 := q0.over x); (try replace os := os.over x); (replace z := zz); (clear zz); rw [lay_nil h'])) <;> simp -implicitDefEqProofs only [syms, symx, Nat.reduceAdd, Nat.reduceMul, Int.reduceLT, Int.reduceLE, Int.reduceAdd, Int.reduceSub, Int.reduceToNat, Int.reduceNeg, reduceIte, Nat.reduceGT, Nat.reduceLT, Nat.reduceLeDiff, code7_0, code7_1, code7_2, code7_3, code7_4, code7_5, code7_6, code7_7, code7_8, ty7, hva, hvs])
    refine ok_has s _ ws _ (os.lay _ _) (by omega) hlight (e2 _ hm) _ (fun h' x => ?_)
    rw [hhas _ hm]
    ((first | ((with_reducible refine KOpsX_call ?_ ?_ ?_); (· exact (by (try simp only [lay_size, List.length_cons, List.length_nil]); have := z.size; omega)); (· first | exact x | simpa only [lay_lay, lay_size, List.append_nil, List.length_cons, List.length_nil, Nat.add_zero] using x)) | skip); replace z := z.overW x (by (try simp only [lay_size, List.length_cons, List.length_nil]); omega); (try replace q0 := q0.over x); (try replace os := os.over x); rw [lay_nil h'])
    simp -implicitDefEqProofs only [syms, symx, Nat.reduceAdd, Nat.reduceMul, Int.reduceLT, Int.reduceLE, Int.reduceAdd, Int.reduceSub, Int.reduceToNat, Int.reduceNeg, reduceIte, Nat.reduceGT, Nat.reduceLT, Nat.reduceLeDiff, code7_0, code7_1, code7_2, code7_3, code7_4, code7_5, code7_6, code7_7, code7_8, ty7]
    repeat' ((first
      | ((with_reducible first | apply forkD | apply forkB | apply forkN | apply forkNP | apply forkNot) <;> intro _)
      | with_reducible_and_instances refine ixa_at (hl.mono z.inc) ds23 sz39 (by omega) hr (fun p hp => ?_)
      | with_reducible_and_instances refine lda hp ag39 sz39 ?_
      | ((with_reducible_and_instances apply unop_not); (· rfl))
      | ((with_reducible refine ⟨z.grw.lay _ _, ?_⟩); (intro _ h' zz x _); (try simp only [lay_lay, List.append_nil] at x); (try replace q0 := q0.over x); (try replace os := os.over x); (replace z := zz); (clear zz); rw [lay_nil h'])) <;> simp -implicitDefEqProofs only [syms, symx, Nat.reduceAdd, Nat.reduceMul, Int.reduceLT, Int.reduceLE, Int.reduceAdd, Int.reduceSub, Int.reduceToNat, Int.reduceNeg, reduceIte, Nat.reduceGT, Nat.reduceLT, Nat.reduceLeDiff, code7_0, code7_1, code7_2, code7_3, code7_4, code7_5, code7_6, code7_7, code7_8, ty7])
    rw [hwi]
    (rw [hI2]; with_reducible refine loopN_normal (m := _) ?_ ⟨i + 1, _, rfl, z, ⟨rfl, by omega, q0, os⟩, junk (by kernel_rfl)⟩; omega)
  simp -implicitDefEqProofs only [syms, symx, Nat.reduceAdd, Nat.reduceMul, Int.reduceLT, Int.reduceLE, Int.reduceAdd, Int.reduceSub, Int.reduceToNat, Int.reduceNeg, reduceIte, Nat.reduceGT, Nat.reduceLT, Nat.reduceLeDiff, code7_0, code7_1, code7_2, code7_3, code7_4, code7_5, code7_6, code7_7, code7_8, ty7, hva, hvs]
  repeat' ((first
    | ((with_reducible first | apply forkD | apply forkB | apply forkN | apply forkNP | apply forkNot) <;> intro _)
    | with_reducible_and_instances refine ixa_at (hl.mono z.inc) ds23 sz39 (by omega) hr (fun p hp => ?_)
    | with_reducible_and_instances refine lda hp ag39 sz39 ?_
    | ((with_reducible_and_instances apply unop_not); (· rfl))
    | ((with_reducible refine ⟨z.grw.lay _ _, ?_⟩); (intro _ h' zz x _); (try simp only [lay_lay, List.append_nil] at x); (try replace q0 := q0.over x); (try replace os := os.over x); (replace z := zz); (clear zz); rw [lay_nil h'])) <;> simp -implicitDefEqProofs only [syms, symx, Nat.reduceAdd, Nat.reduceMul, Int.reduceLT, Int.reduceLE, Int.reduceAdd, Int.reduceSub, Int.reduceToNat, Int.reduceNeg, reduceIte, Nat.reduceGT, Nat.reduceLT, Nat.reduceLeDiff, code7_0, code7_1, code7_2, code7_3, code7_4, code7_5, code7_6, code7_7, code7_8, ty7, hva, hvs])
  obtain ⟨I3, hI3⟩ : ∃ I : Nat → Env → Heap → Prop, I = (fun n e h' => ∃ (k : Nat) (h1 : Heap), h' = h1.lay [] h1.low ∧ Ext h h1 ∧ (n = s.length - k ∧ k ≤ s.length ∧ Holds h1 (h.size + 0) (.row a.cells 39 false) ∧ Sl Rep.atom h1 ws s) ∧ ∃ J : Nat → Value, e = (v :: J 1 :: J 2 :: .pointer (some ⟨h.size + 0, 0, none⟩) :: J 4 :: J 5 :: ws :: J 7 :: .int .i64 k :: J 9 :: J 10 :: J 11 :: J 12 :: J 13 :: J 14 :: J 15 :: J 16 :: J 17 :: J 18 :: J 19 :: J 20 :: J 21 :: J 22 :: J 23 :: J 24 :: J 25 :: J 26 :: J 27 :: J 28 :: J 29 :: J 30 :: J 31 :: J 32 :: J 33 :: J 34 :: J 35 :: J 36 :: J 37 :: J 38 :: J 39 :: J 40 :: J 41 :: J 42 :: J 43 :: J 44 :: J 45 :: J 46 :: J 47 :: J 48 :: J 49 :: J 50 :: J 51 :: J 52 :: J 53 :: J 54 :: J 55 :: J 56 :: J 57 :: J 58 :: J 59 :: J 60 :: J 61 :: J 62 :: J 63 :: J 64 :: J 65 :: J 66 :: J 67 :: J 68 :: J 69 :: J 70 :: J 71 :: J 72 :: J 73 :: J 74 :: J 75 :: J 76 :: J 77 :: J 78 :: J 79 :: J 80 :: J 81 :: J 82 :: J 83 :: J 84 :: J 85 :: J 86 :: J 87 :: J 88 :: J 89 :: J 90 :: J 91 :: J 92 :: J 93 :: J 94 :: J 95 :: J 96 :: J 97 :: J 98 :: J 99 :: J 100 :: J 101 :: J 102 :: J 103 :: J 104 :: J 105 :: J 106 :: J 107 :: J 108 :: J 109 :: J 110 :: J 111 :: J 112 :: J 113 :: J 114 :: J 115 :: J 116 :: J 117 :: J 118 :: J 119 :: J 120 :: J 121 :: J 122 :: J 123 :: J 124 :: J 125 :: J 126 :: J 127 :: J 128 :: J 129 :: J 130 :: J 131 :: J 132 :: J 133 :: J 134 :: J 135 :: J 136 :: J 137 :: J 138 :: J 139 :: J 140 :: J 141 :: J 142 :: J 143 :: J 144 :: J 145 :: J 146 :: J 147 :: J 148 :: J 149 :: J 150 :: J 151 :: J 152 :: J 153 :: J 154 :: J 155 :: J 156 :: J 157 :: J 158 :: J 159 :: J 160 :: J 161 :: J 162 :: J 163 :: J 164 :: J 165 :: J 166 :: J 167 :: J 168 :: J 169 :: J 170 :: J 171 :: J 172 :: J 173 :: J 174 :: [])) := ⟨_, rfl⟩
  refine W_loopN I3 _ (by rw [hI3]; exact ⟨0, _, rfl, z, ⟨rfl, by omega, q0, os⟩, junk (by kernel_rfl)⟩) ?_
  intro n e h' hin
  rw [hI3] at hin
  obtain ⟨k, h3', rfl, z, hinv, J, rfl⟩ := hin
  clear q0 os
  obtain ⟨rfl, hks, q0, os⟩ := hinv
  have hwk : IntKind.i64.wrap ((k : Int) + 1) = ((k + 1 : Nat) : Int) := by rw [wrap_i64 (by omega) (by omega)]; omega
  simp -implicitDefEqProofs only [syms, symx, Nat.reduceAdd, Nat.reduceMul, Int.reduceLT, Int.reduceLE, Int.reduceAdd, Int.reduceSub, Int.reduceToNat, Int.reduceNeg, reduceIte, Nat.reduceGT, Nat.reduceLT, Nat.reduceLeDiff, code7_0, code7_1, code7_2, code7_3, code7_4, code7_5, code7_6, code7_7, code7_8, ty7, hva, hvs, hlns]
  refine forkD (fun hlt2 => ?_) (fun hlt2 => ?_)
  · have hrs : s[(k : Int).toNat]? = some (s.getD k noAtomD) := getD_at (by omega)
    have hms : s.getD k noAtomD ∈ l := hmem _ (List.mem_of_getElem? hrs)
    simp -implicitDefEqProofs only [syms, symx, Nat.reduceAdd, Nat.reduceMul, Int.reduceLT, Int.reduceLE, Int.reduceAdd, Int.reduceSub, Int.reduceToNat, Int.reduceNeg, reduceIte, Nat.reduceGT, Nat.reduceLT, Nat.reduceLeDiff, code7_0, code7_1, code7_2, code7_3, code7_4, code7_5, code7_6, code7_7, code7_8, ty7, hva, hvs]
    repeat' ((first
      | ((with_reducible first | apply forkD | apply forkB | apply forkN | apply forkNP | apply forkNot) <;> intro _)
      | with_reducible_and_instances refine ixa_at (hl.mono z.inc) ds23 sz39 (by omega) hr (fun p hp => ?_)
      | with_reducible_and_instances refine lda hp ag39 sz39 ?_
      | ((with_reducible_and_instances apply unop_not); (· rfl))
      | ((with_reducible refine ⟨z.grw.lay _ _, ?_⟩); (intro _ h' zz x _); (try simp only [lay_lay, List.append_nil] at x); (try replace q0 := q0.over x); (try replace os := os.over x); (replace z := zz); (clear zz); rw [lay_nil h'])) <;> simp -implicitDefEqProofs only [syms, symx, Nat.reduceAdd, Nat.reduceMul, Int.reduceLT, Int.reduceLE, Int.reduceAdd, Int.reduceSub, Int.reduceToNat, Int.reduceNeg, reduceIte, Nat.reduceGT, Nat.reduceLT, Nat.reduceLeDiff, code7_0, code7_1, code7_2, code7_3, code7_4, code7_5, code7_6, code7_7, code7_8, ty7, hva, hvs])
    obtain ⟨I4, hI4⟩ : ∃ I : Nat → Env → Heap → Prop, I = (fun n e h' => ∃ (j : Nat) (b : Bool) (h1 : Heap), h' = h1.lay [] h1.low ∧ Ext h h1 ∧ (n = l.length - j ∧ j ≤ l.length ∧ b = decide (s.getD k noAtomD ∈ l.take j) ∧ Holds h1 (h.size + 0) (.row a.cells 39 false) ∧ Sl Rep.atom h1 ws s) ∧ ∃ J : Nat → Value, e = (v :: J 1 :: J 2 :: .pointer (some ⟨h.size + 0, 0, none⟩) :: J 4 :: J 5 :: ws :: J 7 :: .int .i64 k :: .bool b :: .int .i64 j :: J 11 :: J 12 :: J 13 :: J 14 :: J 15 :: J 16 :: J 17 :: J 18 :: J 19 :: J 20 :: J 21 :: J 22 :: J 23 :: J 24 :: J 25 :: J 26 :: J 27 :: J 28 :: J 29 :: J 30 :: J 31 :: J 32 :: J 33 :: J 34 :: J 35 :: J 36 :: J 37 :: J 38 :: J 39 :: J 40 :: J 41 :: J 42 :: J 43 :: J 44 :: J 45 :: J 46 :: J 47 :: J 48 :: J 49 :: J 50 :: J 51 :: J 52 :: J 53 :: J 54 :: J 55 :: J 56 :: J 57 :: J 58 :: J 59 :: J 60 :: J 61 :: J 62 :: J 63 :: J 64 :: J 65 :: J 66 :: J 67 :: J 68 :: J 69 :: J 70 :: J 71 :: J 72 :: J 73 :: J 74 :: J 75 :: J 76 :: J 77 :: J 78 :: J 79 :: J 80 :: J 81 :: J 82 :: J 83 :: J 84 :: J 85 :: J 86 :: J 87 :: J 88 :: J 89 :: J 90 :: J 91 :: J 92 :: J 93 :: J 94 :: J 95 :: J 96 :: J 97 :: J 98 :: J 99 :: J 100 :: J 101 :: J 102 :: J 103 :: J 104 :: J 105 :: J 106 :: J 107 :: J 108 :: J 109 :: J 110 :: J 111 :: J 112 :: J 113 :: J 114 :: J 115 :: J 116 :: J 117 :: J 118 :: J 119 :: J 120 :: J 121 :: J 122 :: J 123 :: J 124 :: J 125 :: J 126 :: J 127 :: J 128 :: J 129 :: J 130 :: J 131 :: J 132 :: J 133 :: J 134 :: J 135 :: J 136 :: J 137 :: J 138 :: J 139 :: J 140 :: J 141 :: J 142 :: J 143 :: J 144 :: J 145 :: J 146 :: J 147 :: J 148 :: J 149 :: J 150 :: J 151 :: J 152 :: J 153 :: J 154 :: J 155 :: J 156 :: J 157 :: J 158 :: J 159 :: J 160 :: J 161 :: J 162 :: J 163 :: J 164 :: J 165 :: J 166 :: J 167 :: J 168 :: J 169 :: J 170 :: J 171 :: J 172 :: J 173 :: J 174 :: [])) := ⟨_, rfl⟩
    refine W_loopN I4 _ (by rw [hI4]; exact ⟨0, false, _, rfl, z, ⟨rfl, by omega, by simp, q0, os⟩, junk (by kernel_rfl)⟩) ?_
    intro n e h' hin
    rw [hI4] at hin
    obtain ⟨j, b, h4', rfl, z, hinv, J, rfl⟩ := hin
    clear q0 os
    obtain ⟨rfl, hj, hb, q0, os⟩ := hinv
    have hwj : IntKind.i64.wrap ((j : Int) + 1) = ((j + 1 : Nat) : Int) := by rw [wrap_i64 (by omega) (by omega)]; omega
    simp -implicitDefEqProofs only [syms, symx, Nat.reduceAdd, Nat.reduceMul, Int.reduceLT, Int.reduceLE, Int.reduceAdd, Int.reduceSub, Int.reduceToNat, Int.reduceNeg, reduceIte, Nat.reduceGT, Nat.reduceLT, Nat.reduceLeDiff, code7_0, code7_1, code7_2, code7_3, code7_4, code7_5, code7_6, code7_7, code7_8, ty7, hva, hvs, hln]
    refine forkD (fun hlt3 => ?_) (fun hlt3 => ?_)
    · have hr : l[(j : Int).toNat]? = some (l.getD j noAtomD) := getD_at (by omega)
      simp -implicitDefEqProofs only [syms, symx, Nat.reduceAdd, Nat.reduceMul, Int.reduceLT, Int.reduceLE, Int.reduceAdd, Int.reduceSub, Int.reduceToNat, Int.reduceNeg, reduceIte, Nat.reduceGT, Nat.reduceLT, Nat.reduceLeDiff, code7_0, code7_1, code7_2, code7_3, code7_4, code7_5, code7_6, code7_7, code7_8, ty7, hva, hvs]
      refine D7_98 (z.upW _ _ (by omega)) ?_
      cases b
      · simp -implicitDefEqProofs only [syms, symx, Nat.reduceAdd, Nat.reduceMul, Int.reduceLT, Int.reduceLE, Int.reduceAdd, Int.reduceSub, Int.reduceToNat, Int.reduceNeg, reduceIte, Nat.reduceGT, Nat.reduceLT, Nat.reduceLeDiff, code7_0, code7_1, code7_2, code7_3, code7_4, code7_5, code7_6, code7_7, code7_8, ty7, hva, hvs]
        repeat' ((first
          | ((with_reducible first | apply forkD | apply forkB | apply forkN | apply forkNP | apply forkNot) <;> intro _)
          | with_reducible_and_instances refine ixa_at (hl.mono z.inc) ds23 sz39 (by omega) hr (fun p hp => ?_)
          | with_reducible_and_instances refine ixa_at os ds23 sz39 (by omega) hrs (fun p hp => ?_)
          | with_reducible_and_instances refine lda hp ag39 sz39 ?_
          | ((with_reducible_and_instances apply unop_not); (· rfl))
          | ((with_reducible refine ⟨z.grw.lay _ _, ?_⟩); (intro _ h' zz x _); (try simp only [lay_lay, List.append_nil] at x); (try replace q0 := q0.over x); (try replace os := os.over x); (replace z := zz); (clear zz); rw [lay_nil h'])) <;> simp -implicitDefEqProofs only [syms, symx, Nat.reduceAdd, Nat.reduceMul, Int.reduceLT, Int.reduceLE, Int.reduceAdd, Int.reduceSub, Int.reduceToNat, Int.reduceNeg, reduceIte, Nat.reduceGT, Nat.reduceLT, Nat.reduceLeDiff, code7_0, code7_1, code7_2, code7_3, code7_4, code7_5, code7_6, code7_7, code7_8, ty7, hva, hvs, bin_atomE])
        · rw [hwj]
          (rw [hI4]; with_reducible refine loopN_normal (m := _) ?_ ⟨j + 1, true, _, rfl, z, ⟨rfl, by omega, by rw [← in_next hlt3 hb.symm]; exact (decide_eq_true (by assumption)).symm, q0, os⟩, junk (by kernel_rfl)⟩; omega)
        · rw [hwj]
          (rw [hI4]; with_reducible refine loopN_normal (m := _) ?_ ⟨j + 1, false, _, rfl, z, ⟨rfl, by omega, by rw [← in_next hlt3 hb.symm]; exact (decide_eq_false (by assumption)).symm, q0, os⟩, junk (by kernel_rfl)⟩; omega)
      · simp -implicitDefEqProofs only [syms, symx, Nat.reduceAdd, Nat.reduceMul, Int.reduceLT, Int.reduceLE, Int.reduceAdd, Int.reduceSub, Int.reduceToNat, Int.reduceNeg, reduceIte, Nat.reduceGT, Nat.reduceLT, Nat.reduceLeDiff, code7_0, code7_1, code7_2, code7_3, code7_4, code7_5, code7_6, code7_7, code7_8, ty7, hva, hvs]
        repeat' ((first
          | ((with_reducible first | apply forkD | apply forkB | apply forkN | apply forkNP | apply forkNot) <;> intro _)
          | with_reducible_and_instances refine ixa_at (hl.mono z.inc) ds23 sz39 (by omega) hr (fun p hp => ?_)
          | with_reducible_and_instances refine ixa_at os ds23 sz39 (by omega) hrs (fun p hp => ?_)
          | with_reducible_and_instances refine lda hp ag39 sz39 ?_
          | ((with_reducible_and_instances apply unop_not); (· rfl))
          | ((with_reducible refine ⟨z.grw.lay _ _, ?_⟩); (intro _ h' zz x _); (try simp only [lay_lay, List.append_nil] at x); (try replace q0 := q0.over x); (try replace os := os.over x); (replace z := zz); (clear zz); rw [lay_nil h'])) <;> simp -implicitDefEqProofs only [syms, symx, Nat.reduceAdd, Nat.reduceMul, Int.reduceLT, Int.reduceLE, Int.reduceAdd, Int.reduceSub, Int.reduceToNat, Int.reduceNeg, reduceIte, Nat.reduceGT, Nat.reduceLT, Nat.reduceLeDiff, code7_0, code7_1, code7_2, code7_3, code7_4, code7_5, code7_6, code7_7, code7_8, ty7, hva, hvs])
        rw [hwj]
        (rw [hI4]; with_reducible refine loopN_normal (m := _) ?_ ⟨j + 1, true, _, rfl, z, ⟨rfl, by omega, (decide_eq_true (take_mono (of_decide_eq_true hb.symm))).symm, q0, os⟩, junk (by kernel_rfl)⟩; omega)
    have hbt : b = true := by
      rw [hb, List.take_of_length_le (by omega)]
      exact decide_eq_true hms
    subst hbt
    clear hb hI4
    simp -implicitDefEqProofs only [syms, symx, Nat.reduceAdd, Nat.reduceMul, Int.reduceLT, Int.reduceLE, Int.reduceAdd, Int.reduceSub, Int.reduceToNat, Int.reduceNeg, reduceIte, Nat.reduceGT, Nat.reduceLT, Nat.reduceLeDiff, code7_0, code7_1, code7_2, code7_3, code7_4, code7_5, code7_6, code7_7, code7_8, ty7, hva, hvs]
    repeat' ((first
      | ((with_reducible first | apply forkD | apply forkB | apply forkN | apply forkNP | apply forkNot) <;> intro _)
      | with_reducible_and_instances refine ixa_at (hl.mono z.inc) ds23 sz39 (by omega) hr (fun p hp => ?_)
      | with_reducible_and_instances refine ixa_at os ds23 sz39 (by omega) hrs (fun p hp => ?_)
      | with_reducible_and_instances refine lda hp ag39 sz39 ?_
      | ((with_reducible_and_instances apply unop_not); (· rfl))
      | ((with_reducible refine ⟨z.grw.lay _ _, ?_⟩); (intro _ h' zz x _); (try simp only [lay_lay, List.append_nil] at x); (try replace q0 := q0.over x); (try replace os := os.over x); (replace z := zz); (clear zz); rw [lay_nil h'])) <;> simp -implicitDefEqProofs only [syms, symx, Nat.reduceAdd, Nat.reduceMul, Int.reduceLT, Int.reduceLE, Int.reduceAdd, Int.reduceSub, Int.reduceToNat, Int.reduceNeg, reduceIte, Nat.reduceGT, Nat.reduceLT, Nat.reduceLeDiff, code7_0, code7_1, code7_2, code7_3, code7_4, code7_5, code7_6, code7_7, code7_8, ty7, hva, hvs])
    refine D7_101 (z.upW _ _ (by omega)) ?_
    simp -implicitDefEqProofs only [syms, symx, Nat.reduceAdd, Nat.reduceMul, Int.reduceLT, Int.reduceLE, Int.reduceAdd, Int.reduceSub, Int.reduceToNat, Int.reduceNeg, reduceIte, Nat.reduceGT, Nat.reduceLT, Nat.reduceLeDiff, code7_0, code7_1, code7_2, code7_3, code7_4, code7_5, code7_6, code7_7, code7_8, ty7, hva, hvs]
    with_reducible_and_instances apply unop_not
    · rfl
    simp -implicitDefEqProofs only [syms, symx, Nat.reduceAdd, Nat.reduceMul, Int.reduceLT, Int.reduceLE, Int.reduceAdd, Int.reduceSub, Int.reduceToNat, Int.reduceNeg, reduceIte, Nat.reduceGT, Nat.reduceLT, Nat.reduceLeDiff, code7_0, code7_1, code7_2, code7_3, code7_4, code7_5, code7_6, code7_7, code7_8, ty7, hva, hvs, Bool.not_true]
    refine forkD (fun hpos => ?_) (fun hpos => ?_)
    · have hwk1 : IntKind.i64.wrap ((k : Int) - 1) = ((k - 1 : Nat) : Int) := by rw [wrap_i64 (by omega) (by omega)]; omega
      have hrp : s[((k - 1 : Nat) : Int).toNat]? = some (s.getD (k - 1) noAtomD) := getD_at (by omega)
      have hcm : cmpD (s.getD (k - 1) noAtomD) (s.getD k noAtomD) = -1 := by
        have h1 := asc_iff.1 hasc k (by omega) (by omega)
        have h2 : cmpD (s.getD (k - 1) noAtomD) (s.getD k noAtomD) = -1 ∨ cmpD (s.getD (k - 1) noAtomD) (s.getD k noAtomD) = 0 ∨ cmpD (s.getD (k - 1) noAtomD) (s.getD k noAtomD) = 1 := cmp_range _ _
        omega
      simp -implicitDefEqProofs only [syms, symx, Nat.reduceAdd, Nat.reduceMul, Int.reduceLT, Int.reduceLE, Int.reduceAdd, Int.reduceSub, Int.reduceToNat, Int.reduceNeg, reduceIte, Nat.reduceGT, Nat.reduceLT, Nat.reduceLeDiff, code7_0, code7_1, code7_2, code7_3, code7_4, code7_5, code7_6, code7_7, code7_8, ty7, hva, hvs, hwk1]
      repeat' ((first
        | ((with_reducible first | apply forkD | apply forkB | apply forkN | apply forkNP | apply forkNot) <;> intro _)
        | with_reducible_and_instances refine ixa_at os ds23 sz39 (by omega) hrp (fun p hp => ?_)
        | with_reducible_and_instances refine ixa_at os ds23 sz39 (by omega) hrs (fun p hp => ?_)
        | with_reducible_and_instances refine lda hp ag39 sz39 ?_
        | ((with_reducible_and_instances apply unop_not); (· rfl))
        | ((with_reducible refine ⟨z.grw.lay _ _, ?_⟩); (intro _ h' zz x _); (try simp only [lay_lay, List.append_nil] at x); (try replace q0 := q0.over x); (try replace os := os.over x); (replace z := zz); (clear zz); rw [lay_nil h'])) <;> simp -implicitDefEqProofs only [syms, symx, Nat.reduceAdd, Nat.reduceMul, Int.reduceLT, Int.reduceLE, Int.reduceAdd, Int.reduceSub, Int.reduceToNat, Int.reduceNeg, reduceIte, Nat.reduceGT, Nat.reduceLT, Nat.reduceLeDiff, code7_0, code7_1, code7_2, code7_3, code7_4, code7_5, code7_6, code7_7, code7_8, ty7, hva, hvs, hwk1])
      refine ok_cmp _ _ (light_getD hlight (by omega)) (light_getD hlight (by omega)) _ _ (fun h' x => ?_)
      rw [hcm]
      ((first | ((with_reducible refine KOpsX_call ?_ ?_ ?_); (· exact (by (try simp only [lay_size, List.length_cons, List.length_nil]); have := z.size; omega)); (· first | exact x | simpa only [lay_lay, lay_size, List.append_nil, List.length_cons, List.length_nil, Nat.add_zero] using x)) | skip); replace z := z.overW x (by (try simp only [lay_size, List.length_cons, List.length_nil]); omega); (try replace q0 := q0.over x); (try replace os := os.over x); rw [lay_nil h'])
      simp -implicitDefEqProofs only [syms, symx, Nat.reduceAdd, Nat.reduceMul, Int.reduceLT, Int.reduceLE, Int.reduceAdd, Int.reduceSub, Int.reduceToNat, Int.reduceNeg, reduceIte, Nat.reduceGT, Nat.reduceLT, Nat.reduceLeDiff, code7_0, code7_1, code7_2, code7_3, code7_4, code7_5, code7_6, code7_7, code7_8, ty7, bne_self_eq_false, forkE_false]
      repeat' ((first
        | ((with_reducible first | apply forkD | apply forkB | apply forkN | apply forkNP | apply forkNot) <;> intro _)
        | with_reducible_and_instances refine ixa_at os ds23 sz39 (by omega) hrp (fun p hp => ?_)
        | with_reducible_and_instances refine ixa_at os ds23 sz39 (by omega) hrs (fun p hp => ?_)
        | with_reducible_and_instances refine lda hp ag39 sz39 ?_
        | ((with_reducible_and_instances apply unop_not); (· rfl))
        | ((with_reducible refine ⟨z.grw.lay _ _, ?_⟩); (intro _ h' zz x _); (try simp only [lay_lay, List.append_nil] at x); (try replace q0 := q0.over x); (try replace os := os.over x); (replace z := zz); (clear zz); rw [lay_nil h'])) <;> simp -implicitDefEqProofs only [syms, symx, Nat.reduceAdd, Nat.reduceMul, Int.reduceLT, Int.reduceLE, Int.reduceAdd, Int.reduceSub, Int.reduceToNat, Int.reduceNeg, reduceIte, Nat.reduceGT, Nat.reduceLT, Nat.reduceLeDiff, code7_0, code7_1, code7_2, code7_3, code7_4, code7_5, code7_6, code7_7, code7_8, ty7, bne_self_eq_false, forkE_false])
      rw [hwk]
      (rw [hI3]; with_reducible refine loopN_normal (m := _) ?_ ⟨k + 1, _, rfl, z, ⟨rfl, by omega, q0, os⟩, junk (by kernel_rfl)⟩; omega)
    · simp -implicitDefEqProofs only [syms, symx, Nat.reduceAdd, Nat.reduceMul, Int.reduceLT, Int.reduceLE, Int.reduceAdd, Int.reduceSub, Int.reduceToNat, Int.reduceNeg, reduceIte, Nat.reduceGT, Nat.reduceLT, Nat.reduceLeDiff, code7_0, code7_1, code7_2, code7_3, code7_4, code7_5, code7_6, code7_7, code7_8, ty7, hva, hvs]
      repeat' ((first
        | ((with_reducible first | apply forkD | apply forkB | apply forkN | apply forkNP | apply forkNot) <;> intro _)
        | with_reducible_and_instances refine ixa_at os ds23 sz39 (by omega) hrp (fun p hp => ?_)
        | with_reducible_and_instances refine ixa_at os ds23 sz39 (by omega) hrs (fun p hp => ?_)
        | with_reducible_and_instances refine lda hp ag39 sz39 ?_
        | ((with_reducible_and_instances apply unop_not); (· rfl))
        | ((with_reducible refine ⟨z.grw.lay _ _, ?_⟩); (intro _ h' zz x _); (try simp only [lay_lay, List.append_nil] at x); (try replace q0 := q0.over x); (try replace os := os.over x); (replace z := zz); (clear zz); rw [lay_nil h'])) <;> simp -implicitDefEqProofs only [syms, symx, Nat.reduceAdd, Nat.reduceMul, Int.reduceLT, Int.reduceLE, Int.reduceAdd, Int.reduceSub, Int.reduceToNat, Int.reduceNeg, reduceIte, Nat.reduceGT, Nat.reduceLT, Nat.reduceLeDiff, code7_0, code7_1, code7_2, code7_3, code7_4, code7_5, code7_6, code7_7, code7_8, ty7, hva, hvs])
      rw [hwk]
      (rw [hI3]; with_reducible refine loopN_normal (m := _) ?_ ⟨k + 1, _, rfl, z, ⟨rfl, by omega, q0, os⟩, junk (by kernel_rfl)⟩; omega)
  simp -implicitDefEqProofs only [syms, symx, Nat.reduceAdd, Nat.reduceMul, Int.reduceLT, Int.reduceLE, Int.reduceAdd, Int.reduceSub, Int.reduceToNat, Int.reduceNeg, reduceIte, Nat.reduceGT, Nat.reduceLT, Nat.reduceLeDiff, code7_0, code7_1, code7_2, code7_3, code7_4, code7_5, code7_6, code7_7, code7_8, ty7, hva, hvs, q0.lay, cells_atom, ↓cut_atom, agg_atom, valE_atom]
  repeat' ((first
    | ((with_reducible first | apply forkD | apply forkB | apply forkN | apply forkNP | apply forkNot) <;> intro _)
    | with_reducible_and_instances refine ixa_at os ds23 sz39 (by omega) hrp (fun p hp => ?_)
    | with_reducible_and_instances refine ixa_at os ds23 sz39 (by omega) hrs (fun p hp => ?_)
    | with_reducible_and_instances refine lda hp ag39 sz39 ?_
    | ((with_reducible_and_instances apply unop_not); (· rfl))
    | ((with_reducible refine ⟨z.grw.lay _ _, ?_⟩); (intro _ h' zz x _); (try simp only [lay_lay, List.append_nil] at x); (try replace q0 := q0.over x); (try replace os := os.over x); (replace z := zz); (clear zz); rw [lay_nil h'])) <;> simp -implicitDefEqProofs only [syms, symx, Nat.reduceAdd, Nat.reduceMul, Int.reduceLT, Int.reduceLE, Int.reduceAdd, Int.reduceSub, Int.reduceToNat, Int.reduceNeg, reduceIte, Nat.reduceGT, Nat.reduceLT, Nat.reduceLeDiff, code7_0, code7_1, code7_2, code7_3, code7_4, code7_5, code7_6, code7_7, code7_8, ty7, hva, hvs, q0.lay, cells_atom, ↓cut_atom, agg_atom, valE_atom])
  refine ok_has s a ws _ (os.lay _ _) (by omega) hlight e3 _ (fun h' x => ?_)
  ((first | ((with_reducible refine KOpsX_call ?_ ?_ ?_); (· exact (by (try simp only [lay_size, List.length_cons, List.length_nil]); have := z.size; omega)); (· first | exact x | simpa only [lay_lay, lay_size, List.append_nil, List.length_cons, List.length_nil, Nat.add_zero] using x)) | skip); replace z := z.overW x (by (try simp only [lay_size, List.length_cons, List.length_nil]); omega); (try replace q0 := q0.over x); (try replace os := os.over x); rw [lay_nil h'])
  have hss : sortA s = s := sortA_asc hasc
  have hbl : ∀ x ∈ putA a s, x.light = true := put_light hlight e3 hasc
  have hba : AscD (putA a s) := asc_putA hasc
  have hbs : sortA (putA a s) = putA a s := sortA_asc hba
  have hbh := has_put (a := a) hasc
  have hbn := putA_length a s
  have hdl := del_length hba hbh
  have hca : AscD (delA a (putA a s)) := asc_del hba
  have hch := has_del (putA a s) a
  have hcl : ∀ x ∈ delA a (putA a s), x.light = true := fun x hx => hbl x (List.mem_filter.1 hx).1
  have hcase : (hasA s a = true ∧ putA a s = s) ∨ (hasA s a = false ∧ delA a (putA a s) = s) := by
    cases hw : hasA s a
    · exact .inr ⟨rfl, del_put hasc hw⟩
    · exact .inl ⟨rfl, put_has hasc hw⟩
  obtain ⟨was, hwas⟩ : ∃ was, was = hasA s a := ⟨_, rfl⟩
  rw [← hwas] at hcase ⊢
  obtain ⟨bb, hbb⟩ : ∃ bb, bb = putA a s := ⟨_, rfl⟩
  rw [← hbb] at hbl hba hbs hbh hbn hdl hca hch hcl hcase
  obtain ⟨cc, hcc⟩ : ∃ cc, cc = delA a bb := ⟨_, rfl⟩
  rw [← hcc] at hdl hca hch hcl hcase
  rcases hcase with ⟨e5, e6⟩ | ⟨e5, e6⟩
  all_goals
    subst e5
    simp -implicitDefEqProofs only [syms, symx, Nat.reduceAdd, Nat.reduceMul, Int.reduceLT, Int.reduceLE, Int.reduceAdd, Int.reduceSub, Int.reduceToNat, Int.reduceNeg, reduceIte, Nat.reduceGT, Nat.reduceLT, Nat.reduceLeDiff, code7_0, code7_1, code7_2, code7_3, code7_4, code7_5, code7_6, code7_7, code7_8, ty7, hva, hvs]
    repeat' ((first
      | ((with_reducible first | apply forkD | apply forkB | apply forkN | apply forkNP | apply forkNot) <;> intro _)
      | with_reducible_and_instances refine ixa_at os ds23 sz39 (by omega) hrp (fun p hp => ?_)
      | with_reducible_and_instances refine ixa_at os ds23 sz39 (by omega) hrs (fun p hp => ?_)
      | with_reducible_and_instances refine lda hp ag39 sz39 ?_
      | ((with_reducible_and_instances apply unop_not); (· rfl))
      | ((with_reducible refine ⟨z.grw.lay _ _, ?_⟩); (intro _ h' zz x _); (try simp only [lay_lay, List.append_nil] at x); (try replace q0 := q0.over x); (try replace os := os.over x); (replace z := zz); (clear zz); rw [lay_nil h'])) <;> simp -implicitDefEqProofs only [syms, symx, Nat.reduceAdd, Nat.reduceMul, Int.reduceLT, Int.reduceLE, Int.reduceAdd, Int.reduceSub, Int.reduceToNat, Int.reduceNeg, reduceIte, Nat.reduceGT, Nat.reduceLT, Nat.reduceLeDiff, code7_0, code7_1, code7_2, code7_3, code7_4, code7_5, code7_6, code7_7, code7_8, ty7, hva, hvs])
    refine D7_111 (z.upW _ _ (by omega)) ?_
    simp -implicitDefEqProofs only [syms, symx, Nat.reduceAdd, Nat.reduceMul, Int.reduceLT, Int.reduceLE, Int.reduceAdd, Int.reduceSub, Int.reduceToNat, Int.reduceNeg, reduceIte, Nat.reduceGT, Nat.reduceLT, Nat.reduceLeDiff, code7_0, code7_1, code7_2, code7_3, code7_4, code7_5, code7_6, code7_7, code7_8, ty7, hvs]
    repeat' ((first
      | ((with_reducible first | apply forkD | apply forkB | apply forkN | apply forkNP | apply forkNot) <;> intro _)
      | with_reducible_and_instances refine ixa_at os ds23 sz39 (by omega) hrp (fun p hp => ?_)
      | with_reducible_and_instances refine ixa_at os ds23 sz39 (by omega) hrs (fun p hp => ?_)
      | with_reducible_and_instances refine lda hp ag39 sz39 ?_
      | ((with_reducible_and_instances apply unop_not); (· rfl))
      | ((with_reducible refine ⟨z.grw.lay _ _, ?_⟩); (intro _ h' zz x _); (try simp only [lay_lay, List.append_nil] at x); (try replace q0 := q0.over x); (try replace os := os.over x); (replace z := zz); (clear zz); rw [lay_nil h'])) <;> simp -implicitDefEqProofs only [syms, symx, Nat.reduceAdd, Nat.reduceMul, Int.reduceLT, Int.reduceLE, Int.reduceAdd, Int.reduceSub, Int.reduceToNat, Int.reduceNeg, reduceIte, Nat.reduceGT, Nat.reduceLT, Nat.reduceLeDiff, code7_0, code7_1, code7_2, code7_3, code7_4, code7_5, code7_6, code7_7, code7_8, ty7, hvs])
    refine ok_own s ws _ (os.lay _ _) (by omega) _ (fun w7 A7 h' x o7 hA7 => ?_)
    have s7 := o7.sl (by decide)
    ((first | ((with_reducible refine KOpsX_call ?_ ?_ ?_); (· exact (by (try simp only [lay_size, List.length_cons, List.length_nil]); have := z.size; omega)); (· first | exact x | simpa only [lay_lay, lay_size, List.append_nil, List.length_cons, List.length_nil, Nat.add_zero] using x)) | skip); replace z := z.overW x (by (try simp only [lay_size, List.length_cons, List.length_nil]); omega); (try replace q0 := q0.over x); (try replace os := os.over x); rw [lay_nil h'])
    have hv7 : ∀ (h : Heap) (K : Value → Heap → Prop), valE (some w7) h K = K w7 h := fun _ _ => rfl
    simp -implicitDefEqProofs only [syms, symx, Nat.reduceAdd, Nat.reduceMul, Int.reduceLT, Int.reduceLE, Int.reduceAdd, Int.reduceSub, Int.reduceToNat, Int.reduceNeg, reduceIte, Nat.reduceGT, Nat.reduceLT, Nat.reduceLeDiff, code7_0, code7_1, code7_2, code7_3, code7_4, code7_5, code7_6, code7_7, code7_8, ty7, hv7, q0.lay, cells_atom, ↓cut_atom, agg_atom, valE_atom]
    repeat' ((first
      | ((with_reducible first | apply forkD | apply forkB | apply forkN | apply forkNP | apply forkNot) <;> intro _)
      | with_reducible_and_instances refine ixa_at os ds23 sz39 (by omega) hrp (fun p hp => ?_)
      | with_reducible_and_instances refine ixa_at os ds23 sz39 (by omega) hrs (fun p hp => ?_)
      | with_reducible_and_instances refine lda hp ag39 sz39 ?_
      | ((with_reducible_and_instances apply unop_not); (· rfl))
      | ((with_reducible refine ⟨z.grw.lay _ _, ?_⟩); (intro _ h' zz x _); (try simp only [lay_lay, List.append_nil] at x); (try replace q0 := q0.over x); (try replace os := os.over x); (replace z := zz); (clear zz); rw [lay_nil h'])) <;> simp -implicitDefEqProofs only [syms, symx, Nat.reduceAdd, Nat.reduceMul, Int.reduceLT, Int.reduceLE, Int.reduceAdd, Int.reduceSub, Int.reduceToNat, Int.reduceNeg, reduceIte, Nat.reduceGT, Nat.reduceLT, Nat.reduceLeDiff, code7_0, code7_1, code7_2, code7_3, code7_4, code7_5, code7_6, code7_7, code7_8, ty7, hv7, q0.lay, cells_atom, ↓cut_atom, agg_atom, valE_atom])
    refine ok_add s a w7 _ (s7.lay _ _) (by omega) hlight e3 _ (fun h' wb x ob => ?_)
    rw [hss, ← hbb] at ob
    rw [← hwas]
    try rw [Bool.not_true]
    try rw [Bool.not_false]
    replace ob := ob.sl
    ((first | ((with_reducible refine KOpsX_call ?_ ?_ ?_); (· exact (by (try simp only [lay_size, List.length_cons, List.length_nil]); have := z.size; omega)); (· first | exact x | simpa only [lay_lay, lay_size, List.append_nil, List.length_cons, List.length_nil, Nat.add_zero] using x)) | skip); replace z := z.overW x (by (try simp only [lay_size, List.length_cons, List.length_nil]); omega); (try replace q0 := q0.over x); (try replace os := os.over x); rw [lay_nil h'])
    have hvb : ∀ (h : Heap) (K : Value → Heap → Prop), valE (some wb) h K = K wb h := fun _ _ => rfl
    simp -implicitDefEqProofs only [syms, symx, Nat.reduceAdd, Nat.reduceMul, Int.reduceLT, Int.reduceLE, Int.reduceAdd, Int.reduceSub, Int.reduceToNat, Int.reduceNeg, reduceIte, Nat.reduceGT, Nat.reduceLT, Nat.reduceLeDiff, code7_0, code7_1, code7_2, code7_3, code7_4, code7_5, code7_6, code7_7, code7_8, ty7, hvb]
    repeat' ((first
      | ((with_reducible first | apply forkD | apply forkB | apply forkN | apply forkNP | apply forkNot) <;> intro _)
      | with_reducible_and_instances refine ixa_at os ds23 sz39 (by omega) hrp (fun p hp => ?_)
      | with_reducible_and_instances refine ixa_at os ds23 sz39 (by omega) hrs (fun p hp => ?_)
      | with_reducible_and_instances refine lda hp ag39 sz39 ?_
      | ((with_reducible_and_instances apply unop_not); (· rfl))
      | ((with_reducible refine ⟨z.grw.lay _ _, ?_⟩); (intro _ h' zz x _); (try simp only [lay_lay, List.append_nil] at x); (try replace q0 := q0.over x); (try replace os := os.over x); (try replace ob := ob.over x); (replace z := zz); (clear zz); rw [lay_nil h'])) <;> simp -implicitDefEqProofs only [syms, symx, Nat.reduceAdd, Nat.reduceMul, Int.reduceLT, Int.reduceLE, Int.reduceAdd, Int.reduceSub, Int.reduceToNat, Int.reduceNeg, reduceIte, Nat.reduceGT, Nat.reduceLT, Nat.reduceLeDiff, code7_0, code7_1, code7_2, code7_3, code7_4, code7_5, code7_6, code7_7, code7_8, ty7, hvb])
    refine D7_113 (z.upW _ _ (by omega)) ?_
    simp -implicitDefEqProofs only [syms, symx, Nat.reduceAdd, Nat.reduceMul, Int.reduceLT, Int.reduceLE, Int.reduceAdd, Int.reduceSub, Int.reduceToNat, Int.reduceNeg, reduceIte, Nat.reduceGT, Nat.reduceLT, Nat.reduceLeDiff, code7_0, code7_1, code7_2, code7_3, code7_4, code7_5, code7_6, code7_7, code7_8, ty7, hvb]
    refine ok_own bb wb _ (ob.lay _ _) (by omega) _ (fun w8 A8 h' x o8 hA8 => ?_)
    have s8 := o8.sl (by decide)
    ((first | ((with_reducible refine KOpsX_call ?_ ?_ ?_); (· exact (by (try simp only [lay_size, List.length_cons, List.length_nil]); have := z.size; omega)); (· first | exact x | simpa only [lay_lay, lay_size, List.append_nil, List.length_cons, List.length_nil, Nat.add_zero] using x)) | skip); replace z := z.overW x (by (try simp only [lay_size, List.length_cons, List.length_nil]); omega); (try replace q0 := q0.over x); (try replace os := os.over x); (try replace ob := ob.over x); rw [lay_nil h'])
    have hv8 : ∀ (h : Heap) (K : Value → Heap → Prop), valE (some w8) h K = K w8 h := fun _ _ => rfl
    simp -implicitDefEqProofs only [syms, symx, Nat.reduceAdd, Nat.reduceMul, Int.reduceLT, Int.reduceLE, Int.reduceAdd, Int.reduceSub, Int.reduceToNat, Int.reduceNeg, reduceIte, Nat.reduceGT, Nat.reduceLT, Nat.reduceLeDiff, code7_0, code7_1, code7_2, code7_3, code7_4, code7_5, code7_6, code7_7, code7_8, ty7, hv8, q0.lay, cells_atom, ↓cut_atom, agg_atom, valE_atom]
    repeat' ((first
      | ((with_reducible first | apply forkD | apply forkB | apply forkN | apply forkNP | apply forkNot) <;> intro _)
      | with_reducible_and_instances refine ixa_at os ds23 sz39 (by omega) hrp (fun p hp => ?_)
      | with_reducible_and_instances refine ixa_at os ds23 sz39 (by omega) hrs (fun p hp => ?_)
      | with_reducible_and_instances refine lda hp ag39 sz39 ?_
      | ((with_reducible_and_instances apply unop_not); (· rfl))
      | ((with_reducible refine ⟨z.grw.lay _ _, ?_⟩); (intro _ h' zz x _); (try simp only [lay_lay, List.append_nil] at x); (try replace q0 := q0.over x); (try replace os := os.over x); (try replace ob := ob.over x); (replace z := zz); (clear zz); rw [lay_nil h'])) <;> simp -implicitDefEqProofs only [syms, symx, Nat.reduceAdd, Nat.reduceMul, Int.reduceLT, Int.reduceLE, Int.reduceAdd, Int.reduceSub, Int.reduceToNat, Int.reduceNeg, reduceIte, Nat.reduceGT, Nat.reduceLT, Nat.reduceLeDiff, code7_0, code7_1, code7_2, code7_3, code7_4, code7_5, code7_6, code7_7, code7_8, ty7, hv8, q0.lay, cells_atom, ↓cut_atom, agg_atom, valE_atom])
    refine ok_remove bb a w8 _ (s8.lay _ _) (by omega) hbl e3 _ (fun h' wc x oc => ?_)
    rw [hbs, ← hcc] at oc
    rw [hbh]
    replace oc := oc.sl
    ((first | ((with_reducible refine KOpsX_call ?_ ?_ ?_); (· exact (by (try simp only [lay_size, List.length_cons, List.length_nil]); have := z.size; omega)); (· first | exact x | simpa only [lay_lay, lay_size, List.append_nil, List.length_cons, List.length_nil, Nat.add_zero] using x)) | skip); replace z := z.overW x (by (try simp only [lay_size, List.length_cons, List.length_nil]); omega); (try replace q0 := q0.over x); (try replace os := os.over x); (try replace ob := ob.over x); rw [lay_nil h'])
    have hvc : ∀ (h : Heap) (K : Value → Heap → Prop), valE (some wc) h K = K wc h := fun _ _ => rfl
    simp -implicitDefEqProofs only [syms, symx, Nat.reduceAdd, Nat.reduceMul, Int.reduceLT, Int.reduceLE, Int.reduceAdd, Int.reduceSub, Int.reduceToNat, Int.reduceNeg, reduceIte, Nat.reduceGT, Nat.reduceLT, Nat.reduceLeDiff, code7_0, code7_1, code7_2, code7_3, code7_4, code7_5, code7_6, code7_7, code7_8, ty7, hvc]
    repeat' ((first
      | ((with_reducible first | apply forkD | apply forkB | apply forkN | apply forkNP | apply forkNot) <;> intro _)
      | with_reducible_and_instances refine ixa_at os ds23 sz39 (by omega) hrp (fun p hp => ?_)
      | with_reducible_and_instances refine ixa_at os ds23 sz39 (by omega) hrs (fun p hp => ?_)
      | with_reducible_and_instances refine lda hp ag39 sz39 ?_
      | ((with_reducible_and_instances apply unop_not); (· rfl))
      | ((with_reducible refine ⟨z.grw.lay _ _, ?_⟩); (intro _ h' zz x _); (try simp only [lay_lay, List.append_nil] at x); (try replace q0 := q0.over x); (try replace os := os.over x); (try replace ob := ob.over x); (try replace oc := oc.over x); (replace z := zz); (clear zz); rw [lay_nil h'])) <;> simp -implicitDefEqProofs only [syms, symx, Nat.reduceAdd, Nat.reduceMul, Int.reduceLT, Int.reduceLE, Int.reduceAdd, Int.reduceSub, Int.reduceToNat, Int.reduceNeg, reduceIte, Nat.reduceGT, Nat.reduceLT, Nat.reduceLeDiff, code7_0, code7_1, code7_2, code7_3, code7_4, code7_5, code7_6, code7_7, code7_8, ty7, hvc])
    have hlb := fun (hh : Heap) => ob.lenA ds23 hh
    have hlc := fun (hh : Heap) => oc.lenA ds23 hh
    simp -implicitDefEqProofs only [syms, symx, Nat.reduceAdd, Nat.reduceMul, Int.reduceLT, Int.reduceLE, Int.reduceAdd, Int.reduceSub, Int.reduceToNat, Int.reduceNeg, reduceIte, Nat.reduceGT, Nat.reduceLT, Nat.reduceLeDiff, code7_0, code7_1, code7_2, code7_3, code7_4, code7_5, code7_6, code7_7, code7_8, ty7, bin_bool_ft, bin_bool_tf, hlb, hlc, hvs, hvb, hvc]
    repeat' ((first
      | ((with_reducible first | apply forkD | apply forkB | apply forkN | apply forkNP | apply forkNot) <;> intro _)
      | with_reducible_and_instances refine ixa_at os ds23 sz39 (by omega) hrp (fun p hp => ?_)
      | with_reducible_and_instances refine ixa_at os ds23 sz39 (by omega) hrs (fun p hp => ?_)
      | with_reducible_and_instances refine lda hp ag39 sz39 ?_
      | ((with_reducible_and_instances apply unop_not); (· rfl))
      | ((with_reducible refine ⟨z.grw.lay _ _, ?_⟩); (intro _ h' zz x _); (try simp only [lay_lay, List.append_nil] at x); (try replace q0 := q0.over x); (try replace os := os.over x); (try replace ob := ob.over x); (try replace oc := oc.over x); (replace z := zz); (clear zz); rw [lay_nil h'])) <;> simp -implicitDefEqProofs only [syms, symx, Nat.reduceAdd, Nat.reduceMul, Int.reduceLT, Int.reduceLE, Int.reduceAdd, Int.reduceSub, Int.reduceToNat, Int.reduceNeg, reduceIte, Nat.reduceGT, Nat.reduceLT, Nat.reduceLeDiff, code7_0, code7_1, code7_2, code7_3, code7_4, code7_5, code7_6, code7_7, code7_8, ty7, bin_bool_ft, bin_bool_tf, hlb, hlc, hvs, hvb, hvc])
    refine ok_is bb wb _ (ob.lay _ _) (by omega) hbl _ (fun h' x => ?_)
    rw [isA_iff.2 hba]
    ((first | ((with_reducible refine KOpsX_call ?_ ?_ ?_); (· exact (by (try simp only [lay_size, List.length_cons, List.length_nil]); have := z.size; omega)); (· first | exact x | simpa only [lay_lay, lay_size, List.append_nil, List.length_cons, List.length_nil, Nat.add_zero] using x)) | skip); replace z := z.overW x (by (try simp only [lay_size, List.length_cons, List.length_nil]); omega); (try replace q0 := q0.over x); (try replace os := os.over x); (try replace ob := ob.over x); (try replace oc := oc.over x); rw [lay_nil h'])
    simp -implicitDefEqProofs only [syms, symx, Nat.reduceAdd, Nat.reduceMul, Int.reduceLT, Int.reduceLE, Int.reduceAdd, Int.reduceSub, Int.reduceToNat, Int.reduceNeg, reduceIte, Nat.reduceGT, Nat.reduceLT, Nat.reduceLeDiff, code7_0, code7_1, code7_2, code7_3, code7_4, code7_5, code7_6, code7_7, code7_8, ty7, hvb, hvc, q0.lay, cells_atom, ↓cut_atom, agg_atom, valE_atom]
    repeat' ((first
      | ((with_reducible first | apply forkD | apply forkB | apply forkN | apply forkNP | apply forkNot) <;> intro _)
      | with_reducible_and_instances refine ixa_at os ds23 sz39 (by omega) hrp (fun p hp => ?_)
      | with_reducible_and_instances refine ixa_at os ds23 sz39 (by omega) hrs (fun p hp => ?_)
      | with_reducible_and_instances refine lda hp ag39 sz39 ?_
      | ((with_reducible_and_instances apply unop_not); (· rfl))
      | ((with_reducible refine ⟨z.grw.lay _ _, ?_⟩); (intro _ h' zz x _); (try simp only [lay_lay, List.append_nil] at x); (try replace q0 := q0.over x); (try replace os := os.over x); (try replace ob := ob.over x); (try replace oc := oc.over x); (replace z := zz); (clear zz); rw [lay_nil h'])) <;> simp -implicitDefEqProofs only [syms, symx, Nat.reduceAdd, Nat.reduceMul, Int.reduceLT, Int.reduceLE, Int.reduceAdd, Int.reduceSub, Int.reduceToNat, Int.reduceNeg, reduceIte, Nat.reduceGT, Nat.reduceLT, Nat.reduceLeDiff, code7_0, code7_1, code7_2, code7_3, code7_4, code7_5, code7_6, code7_7, code7_8, ty7, hvb, hvc, q0.lay, cells_atom, ↓cut_atom, agg_atom, valE_atom])
    refine ok_has bb a wb _ (ob.lay _ _) (by omega) hbl e3 _ (fun h' x => ?_)
    rw [hbh]
    ((first | ((with_reducible refine KOpsX_call ?_ ?_ ?_); (· exact (by (try simp only [lay_size, List.length_cons, List.length_nil]); have := z.size; omega)); (· first | exact x | simpa only [lay_lay, lay_size, List.append_nil, List.length_cons, List.length_nil, Nat.add_zero] using x)) | skip); replace z := z.overW x (by (try simp only [lay_size, List.length_cons, List.length_nil]); omega); (try replace q0 := q0.over x); (try replace os := os.over x); (try replace ob := ob.over x); (try replace oc := oc.over x); rw [lay_nil h'])
    simp -implicitDefEqProofs only [syms, symx, Nat.reduceAdd, Nat.reduceMul, Int.reduceLT, Int.reduceLE, Int.reduceAdd, Int.reduceSub, Int.reduceToNat, Int.reduceNeg, reduceIte, Nat.reduceGT, Nat.reduceLT, Nat.reduceLeDiff, code7_0, code7_1, code7_2, code7_3, code7_4, code7_5, code7_6, code7_7, code7_8, ty7, hvb, hvc, q0.lay, cells_atom, ↓cut_atom, agg_atom, valE_atom]
    repeat' ((first
      | ((with_reducible first | apply forkD | apply forkB | apply forkN | apply forkNP | apply forkNot) <;> intro _)
      | with_reducible_and_instances refine ixa_at os ds23 sz39 (by omega) hrp (fun p hp => ?_)
      | with_reducible_and_instances refine ixa_at os ds23 sz39 (by omega) hrs (fun p hp => ?_)
      | with_reducible_and_instances refine lda hp ag39 sz39 ?_
      | ((with_reducible_and_instances apply unop_not); (· rfl))
      | ((with_reducible refine ⟨z.grw.lay _ _, ?_⟩); (intro _ h' zz x _); (try simp only [lay_lay, List.append_nil] at x); (try replace q0 := q0.over x); (try replace os := os.over x); (try replace ob := ob.over x); (try replace oc := oc.over x); (replace z := zz); (clear zz); rw [lay_nil h'])) <;> simp -implicitDefEqProofs only [syms, symx, Nat.reduceAdd, Nat.reduceMul, Int.reduceLT, Int.reduceLE, Int.reduceAdd, Int.reduceSub, Int.reduceToNat, Int.reduceNeg, reduceIte, Nat.reduceGT, Nat.reduceLT, Nat.reduceLeDiff, code7_0, code7_1, code7_2, code7_3, code7_4, code7_5, code7_6, code7_7, code7_8, ty7, hvb, hvc, q0.lay, cells_atom, ↓cut_atom, agg_atom, valE_atom])
    refine ok_has cc a wc _ (oc.lay _ _) (by omega) hcl e3 _ (fun h' x => ?_)
    rw [hch]
    ((first | ((with_reducible refine KOpsX_call ?_ ?_ ?_); (· exact (by (try simp only [lay_size, List.length_cons, List.length_nil]); have := z.size; omega)); (· first | exact x | simpa only [lay_lay, lay_size, List.append_nil, List.length_cons, List.length_nil, Nat.add_zero] using x)) | skip); replace z := z.overW x (by (try simp only [lay_size, List.length_cons, List.length_nil]); omega); (try replace q0 := q0.over x); (try replace os := os.over x); (try replace ob := ob.over x); (try replace oc := oc.over x); rw [lay_nil h'])
    have hlb := fun (hh : Heap) => ob.lenA ds23 hh
    have hlc := fun (hh : Heap) => oc.lenA ds23 hh
    have hws : IntKind.i64.wrap ((bb.length : Int) - 1) = (cc.length : Int) := by
      rw [wrap_i64 (by omega) (by omega)]
      omega
    simp -implicitDefEqProofs only [syms, symx, Nat.reduceAdd, Nat.reduceMul, Int.reduceLT, Int.reduceLE, Int.reduceAdd, Int.reduceSub, Int.reduceToNat, Int.reduceNeg, reduceIte, Nat.reduceGT, Nat.reduceLT, Nat.reduceLeDiff, code7_0, code7_1, code7_2, code7_3, code7_4, code7_5, code7_6, code7_7, code7_8, ty7, hvb, hvc, hlb, hlc, hws, bne_self_eq_false]
    repeat' ((first
      | ((with_reducible first | apply forkD | apply forkB | apply forkN | apply forkNP | apply forkNot) <;> intro _)
      | with_reducible_and_instances refine ixa_at os ds23 sz39 (by omega) hrp (fun p hp => ?_)
      | with_reducible_and_instances refine ixa_at os ds23 sz39 (by omega) hrs (fun p hp => ?_)
      | with_reducible_and_instances refine lda hp ag39 sz39 ?_
      | ((with_reducible_and_instances apply unop_not); (· rfl))
      | ((with_reducible refine ⟨z.grw.lay _ _, ?_⟩); (intro _ h' zz x _); (try simp only [lay_lay, List.append_nil] at x); (try replace q0 := q0.over x); (try replace os := os.over x); (try replace ob := ob.over x); (try replace oc := oc.over x); (replace z := zz); (clear zz); rw [lay_nil h'])) <;> simp -implicitDefEqProofs only [syms, symx, Nat.reduceAdd, Nat.reduceMul, Int.reduceLT, Int.reduceLE, Int.reduceAdd, Int.reduceSub, Int.reduceToNat, Int.reduceNeg, reduceIte, Nat.reduceGT, Nat.reduceLT, Nat.reduceLeDiff, code7_0, code7_1, code7_2, code7_3, code7_4, code7_5, code7_6, code7_7, code7_8, ty7, hvb, hvc, hlb, hlc, hws, bne_self_eq_false])
    first
      | (with_reducible refine ok_sameAtoms bb s wb ws _ (ob.lay _ _) (os.lay _ _) (by omega) (by omega) _ (fun h' x => ?_))
      | (with_reducible refine ok_sameAtoms cc s wc ws _ (oc.lay _ _) (os.lay _ _) (by omega) (by omega) _ (fun h' x => ?_))
    rw [decide_eq_true e6]
    ((first | ((with_reducible refine KOpsX_call ?_ ?_ ?_); (· exact (by (try simp only [lay_size, List.length_cons, List.length_nil]); have := z.size; omega)); (· first | exact x | simpa only [lay_lay, lay_size, List.append_nil, List.length_cons, List.length_nil, Nat.add_zero] using x)) | skip); replace z := z.overW x (by (try simp only [lay_size, List.length_cons, List.length_nil]); omega); (try replace q0 := q0.over x); (try replace os := os.over x); (try replace ob := ob.over x); (try replace oc := oc.over x); rw [lay_nil h'])
    simp -implicitDefEqProofs only [syms, symx, Nat.reduceAdd, Nat.reduceMul, Int.reduceLT, Int.reduceLE, Int.reduceAdd, Int.reduceSub, Int.reduceToNat, Int.reduceNeg, reduceIte, Nat.reduceGT, Nat.reduceLT, Nat.reduceLeDiff, code7_0, code7_1, code7_2, code7_3, code7_4, code7_5, code7_6, code7_7, code7_8, ty7]
    repeat' ((first
      | ((with_reducible first | apply forkD | apply forkB | apply forkN | apply forkNP | apply forkNot) <;> intro _)
      | with_reducible_and_instances refine ixa_at os ds23 sz39 (by omega) hrp (fun p hp => ?_)
      | with_reducible_and_instances refine ixa_at os ds23 sz39 (by omega) hrs (fun p hp => ?_)
      | with_reducible_and_instances refine lda hp ag39 sz39 ?_
      | ((with_reducible_and_instances apply unop_not); (· rfl))
      | ((with_reducible refine ⟨z.grw.lay _ _, ?_⟩); (intro _ h' zz x _); (try simp only [lay_lay, List.append_nil] at x); (try replace q0 := q0.over x); (try replace os := os.over x); (try replace ob := ob.over x); (try replace oc := oc.over x); (replace z := zz); (clear zz); rw [lay_nil h'])) <;> simp -implicitDefEqProofs only [syms, symx, Nat.reduceAdd, Nat.reduceMul, Int.reduceLT, Int.reduceLE, Int.reduceAdd, Int.reduceSub, Int.reduceToNat, Int.reduceNeg, reduceIte, Nat.reduceGT, Nat.reduceLT, Nat.reduceLeDiff, code7_0, code7_1, code7_2, code7_3, code7_4, code7_5, code7_6, code7_7, code7_8, ty7])
    exact hk _ (z.upW _ _ (by omega))
end Go.Proofs.Ytompindebndddaa
namespace Go.Proofs.Ytompindebndddaa
open Go.ChangeShapes Go.WideShapes Go.ChangeAt Go.RowKit Go.Am
theorem orderSorts_own : ownKnob Try.prog.godebug = none := by kernel_rfl
theorem orderSorts_laidOut : laidOutB Try.prog = true := by kernel_rfl
set_option maxRecDepth 100000 in
theorem orderSorts_ok (h : Heap) (args : List Value) (_ : h.low = h.size) (hs : ArgsShp Try.prog h 8 Try.f7.params.toList args) : Ok Try.prog tab ov 7 args h fun v h' => v = .bool true ∧ Ext h h' := by
  have hp : Try.f7.params.toList = [23, 39] := by kernel_rfl
  have hs2 : ArgsShp Try.prog h 8 [23, 39] args := argsShp_eq hp hs
  clear hs
  obtain ⟨x0, r0, rfl, h0, hs2⟩ := argsShp_cons hs2
  obtain ⟨x1, r1, rfl, h1, hs2⟩ := argsShp_cons hs2
  obtain rfl := argsShp_nil hs2
  obtain ⟨d0, f0⟩ := arg_atoms h0
  obtain ⟨d1, rfl⟩ := arg_atom h1
  exact ok_orderSorts d0 d1 x0 h f0 _ (fun h' x => ⟨rfl, x⟩)
set_option maxRecDepth 100000 in
theorem orderSorts_lifted (os : Os) (started : os.Started) (H : Type) (enc : TypeId × Value → H) :
    ReturnsInHanded {} Try.checked os 7 .any (Rows.orderSortsSpec.pre6 enc Try.prog Try.f7 Rows.orderSortsRow.domain false) (Rows.orderSortsSpec.post enc Try.prog Try.f7 Rows.orderSortsRow.apart Rows.orderSortsRow.fresh Rows.orderSortsRow.handsOn Rows.orderSortsRow.again) := by
  refine returnsInHanded_of_change_shaped (C := Try.checked) orderSorts_own started (by kernel_rfl) Try.func7
    (ChangeSpec.witness6 (enc := enc) (C := Try.checked) false ⟨#[], #[.slice none 0 0, .agg ⟨noAtomD.cells⟩], []⟩ 12 (by kernel_rfl) (by kernel_rfl) (by kernel_rfl) (by kernel_rfl)) ?_
  intro W base args ds gs before hval hW _ _ hsh _
  exact law_contract (n := 8) (boolT := 4) mixed tab_fits rfl ov_ok rfl (of_decide_eq_true (by kernel_rfl)) orderSorts_laidOut rfl (by kernel_rfl) (by kernel_rfl) Try.underlying4 (by kernel_rfl) (by kernel_rfl)
    (fun ds hd => by
      have hp : Try.f7.params.size = 2 := by kernel_rfl
      rw [hp] at hd
      match ds, hd with
      | [_, _], _ => rfl)
    orderSorts_ok hval hW hsh
theorem orderSorts_holds : Rows.OrderSortsSaid :=
  OpenClaim.holds_of_wide 7 Try.f7 rfl rfl rfl rfl rfl rfl rfl ⟨rfl, rfl, rfl, rfl, rfl⟩ rfl rfl rfl rfl rfl (by kernel_rfl) Try.func7 (by kernel_rfl)
    (of_decide_eq_true (by kernel_rfl)) (by unfold Func.isWrapper; first | (rw [if_pos (by decide +kernel)]; kernel_rfl) | (rw [if_neg (by decide +kernel)]; exact ⟨rfl, rfl⟩))
    (fun os started H enc _ => orderSorts_lifted os started H enc)
#print axioms orderSorts_holds
end Go.Proofs.Ytompindebndddaa
