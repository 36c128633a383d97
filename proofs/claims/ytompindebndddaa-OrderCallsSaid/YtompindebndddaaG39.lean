/- The code of some functions, node by node, for simp. Written by a program (mkcode.py). No condition. -/
import Derived.Test.YtompindebndddaaG19
import Derived.Test.YtompindebndddaaG14
import Derived.KernelRfl
import Derived.Test.YtompindebndddaaZE8
import Derived.Test.YtompindebndddaaG23
namespace Go.Proofs.Ytompindebndddaa
open Go.Am
set_option linter.unusedVariables false
set_option maxRecDepth 100000
noncomputable def K32_0 := Try.f32.body.getD .skip
noncomputable def K32_1 := lft K32_0
noncomputable def A32_1 := rops K32_1
noncomputable def K32_2 := rgt K32_0
noncomputable def K32_3 := lft K32_2
noncomputable def K32_4 := lft K32_3
noncomputable def A32_4 := rops K32_4
noncomputable def K32_5 := rgt K32_3
noncomputable def K32_6 := lft K32_5
noncomputable def K32_7 := lft K32_6
noncomputable def A32_7 := rops K32_7
noncomputable def K32_8 := rgt K32_6
noncomputable def K32_9 := rgt K32_5
noncomputable def K32_10 := rgt K32_2
noncomputable def K32_11 := lft K32_10
noncomputable def K32_12 := lft K32_11
noncomputable def A32_12 := rops K32_12
noncomputable def K32_13 := rgt K32_11
noncomputable def K32_14 := lft K32_13
noncomputable def K32_15 := lft K32_14
noncomputable def K32_16 := lft K32_15
noncomputable def K32_17 := lft K32_16
noncomputable def A32_17 := rops K32_17
noncomputable def K32_18 := rgt K32_16
noncomputable def K32_19 := lft K32_18
noncomputable def K32_20 := rgt K32_18
noncomputable def K32_21 := rgt K32_15
noncomputable def K32_22 := lft K32_21
noncomputable def K32_23 := lft K32_22
noncomputable def K32_24 := lft K32_23
noncomputable def A32_24 := rops K32_24
noncomputable def K32_25 := rgt K32_23
noncomputable def K32_26 := lft K32_25
noncomputable def K32_27 := lft K32_26
noncomputable def A32_27 := rops K32_27
noncomputable def K32_28 := rgt K32_26
noncomputable def K32_29 := rgt K32_25
noncomputable def K32_30 := rgt K32_21
noncomputable def A32_30 := rops K32_30
noncomputable def K32_31 := rgt K32_10
noncomputable def K32_32 := lft K32_31
noncomputable def A32_32 := rops K32_32
noncomputable def K32_33 := rgt K32_31
theorem body32 : Try.f32.body = some K32_0 := by kernel_rfl
theorem D32_24 : DrawK K32_24 A32_24 := drawK rfl (by kernel_rfl)
noncomputable def xcode32_0 := PLift.up (nd (seqK K32_0 K32_1 K32_2) <| nd (regK K32_1 A32_1) <| nd (nilK A32_1 1) <| nd (opS A32_1 0 1) <| nd (seqK K32_2 K32_3 K32_10) <| nd (seqK K32_3 K32_4 K32_5) <| nd (regK K32_4 A32_4) <| nd (nilK A32_4 5) <| nd (opS A32_4 0 1) <| nd (opS A32_4 1 2) <| nd (opS A32_4 2 3) <| nd (opS A32_4 3 4) <| nd (opS A32_4 4 5) <| nd (condK K32_5 K32_6 K32_9) <| nd (seqK K32_6 K32_7 K32_8) <| nd (regK K32_7 A32_7) <| nd (nilK A32_7 1) <| nd (opS A32_7 0 1) <| nd (retK K32_8) <| nd (skipK K32_9) <| nd (seqK K32_10 K32_11 K32_31) <| nd (seqK K32_11 K32_12 K32_13) <| nd (regK K32_12 A32_12) <| nd (nilK A32_12 1) <| nd (opS A32_12 0 1) <| nd (blkK K32_13 K32_14) <| nd (loopK K32_14 K32_15) <| nd (seqK K32_15 K32_16 K32_21) <| nd (seqK K32_16 K32_17 K32_18) <| nd (regK K32_17 A32_17) <| nd (nilK A32_17 4) <| nd (opS A32_17 0 1) <| nd (opS A32_17 1 2) <| nd (opS A32_17 2 3) <| nd (opS A32_17 3 4) <| nd (condK K32_18 K32_19 K32_20) <| nd (skipK K32_19) <| nd (exitK K32_20) <| nd (seqK K32_21 K32_22 K32_30) <| blkK K32_22 K32_23)
theorem code32_0 : type_of% xcode32_0.down := xcode32_0.down
noncomputable def xcode32_1 := PLift.up (nd (seqK K32_23 K32_24 K32_25) <| nd (nilX A32_24 9) <| nd (opSX A32_24 0 1 true) <| nd (opSX A32_24 1 2 true) <| nd (opSX A32_24 2 3 true) <| nd (opSX A32_24 3 4 true) <| nd (opSX A32_24 4 5 true) <| nd (opSX A32_24 5 6 true) <| nd (opSX A32_24 6 7 true) <| nd (opSX A32_24 7 8 true) <| nd (opSX A32_24 8 9 true) <| nd (condK K32_25 K32_26 K32_29) <| nd (seqK K32_26 K32_27 K32_28) <| nd (regK K32_27 A32_27) <| nd (nilK A32_27 1) <| nd (opS A32_27 0 1) <| nd (retK K32_28) <| nd (skipK K32_29) <| nd (regK K32_30 A32_30) <| nd (nilK A32_30 3) <| nd (opS A32_30 0 1) <| nd (opS A32_30 1 2) <| nd (opS A32_30 2 3) <| nd (seqK K32_31 K32_32 K32_33) <| nd (regK K32_32 A32_32) <| nd (nilK A32_32 1) <| nd (opS A32_32 0 1) <| retK K32_33)
theorem code32_1 : type_of% xcode32_1.down := xcode32_1.down
noncomputable def xty32 := PLift.up (nd @ix23 <| nd @ld39 <| nd @ln23 <| @fi32)
theorem ty32 : type_of% xty32.down := xty32.down

noncomputable def K94_0 := Try.f94.body.getD .skip
noncomputable def K94_1 := lft K94_0
noncomputable def A94_1 := rops K94_1
noncomputable def K94_2 := rgt K94_0
noncomputable def K94_3 := lft K94_2
noncomputable def A94_3 := rops K94_3
noncomputable def K94_4 := rgt K94_2
noncomputable def K94_5 := lft K94_4
noncomputable def K94_6 := lft K94_5
noncomputable def A94_6 := rops K94_6
noncomputable def K94_7 := rgt K94_5
noncomputable def K94_8 := lft K94_7
noncomputable def K94_9 := lft K94_8
noncomputable def A94_9 := rops K94_9
noncomputable def K94_10 := rgt K94_8
noncomputable def K94_11 := rgt K94_7
noncomputable def K94_12 := rgt K94_4
noncomputable def K94_13 := lft K94_12
noncomputable def K94_14 := lft K94_13
noncomputable def A94_14 := rops K94_14
noncomputable def K94_15 := rgt K94_13
noncomputable def K94_16 := lft K94_15
noncomputable def K94_17 := lft K94_16
noncomputable def K94_18 := lft K94_17
noncomputable def K94_19 := lft K94_18
noncomputable def A94_19 := rops K94_19
noncomputable def K94_20 := rgt K94_18
noncomputable def K94_21 := lft K94_20
noncomputable def K94_22 := rgt K94_20
noncomputable def K94_23 := rgt K94_17
noncomputable def K94_24 := lft K94_23
noncomputable def K94_25 := lft K94_24
noncomputable def K94_26 := lft K94_25
noncomputable def A94_26 := rops K94_26
noncomputable def K94_27 := rgt K94_25
noncomputable def K94_28 := lft K94_27
noncomputable def A94_28 := rops K94_28
noncomputable def K94_29 := rgt K94_27
noncomputable def K94_30 := lft K94_29
noncomputable def K94_31 := lft K94_30
noncomputable def A94_31 := rops K94_31
noncomputable def K94_32 := rgt K94_30
noncomputable def A94_32 := rops K94_32
noncomputable def K94_33 := rgt K94_29
noncomputable def K94_34 := rgt K94_23
noncomputable def A94_34 := rops K94_34
noncomputable def K94_35 := rgt K94_12
noncomputable def K94_36 := lft K94_35
noncomputable def A94_36 := rops K94_36
noncomputable def K94_37 := rgt K94_35
noncomputable def K94_38 := lft K94_37
noncomputable def A94_38 := rops K94_38
noncomputable def K94_39 := rgt K94_37
theorem body94 : Try.f94.body = some K94_0 := by kernel_rfl
noncomputable def xcode94_0 := PLift.up (nd (seqK K94_0 K94_1 K94_2) <| nd (regK K94_1 A94_1) <| nd (nilK A94_1 1) <| nd (opS A94_1 0 1) <| nd (seqK K94_2 K94_3 K94_4) <| nd (regK K94_3 A94_3) <| nd (nilK A94_3 4) <| nd (opS A94_3 0 1) <| nd (opS A94_3 1 2) <| nd (opS A94_3 2 3) <| nd (opS A94_3 3 4) <| nd (seqK K94_4 K94_5 K94_12) <| nd (seqK K94_5 K94_6 K94_7) <| nd (regK K94_6 A94_6) <| nd (nilK A94_6 2) <| nd (opS A94_6 0 1) <| nd (opS A94_6 1 2) <| nd (condK K94_7 K94_8 K94_11) <| nd (seqK K94_8 K94_9 K94_10) <| nd (regK K94_9 A94_9) <| nd (nilK A94_9 2) <| nd (opS A94_9 0 1) <| nd (opS A94_9 1 2) <| nd (retK K94_10) <| nd (skipK K94_11) <| nd (seqK K94_12 K94_13 K94_35) <| nd (seqK K94_13 K94_14 K94_15) <| nd (regK K94_14 A94_14) <| nd (nilK A94_14 3) <| nd (opS A94_14 0 1) <| nd (opS A94_14 1 2) <| nd (opS A94_14 2 3) <| nd (blkK K94_15 K94_16) <| nd (loopK K94_16 K94_17) <| nd (seqK K94_17 K94_18 K94_23) <| nd (seqK K94_18 K94_19 K94_20) <| nd (regK K94_19 A94_19) <| nd (nilK A94_19 4) <| nd (opS A94_19 0 1) <| opS A94_19 1 2)
theorem code94_0 : type_of% xcode94_0.down := xcode94_0.down
noncomputable def xcode94_1 := PLift.up (nd (opS A94_19 2 3) <| nd (opS A94_19 3 4) <| nd (condK K94_20 K94_21 K94_22) <| nd (skipK K94_21) <| nd (exitK K94_22) <| nd (seqK K94_23 K94_24 K94_34) <| nd (blkK K94_24 K94_25) <| nd (seqK K94_25 K94_26 K94_27) <| nd (regK K94_26 A94_26) <| nd (nilK A94_26 6) <| nd (opS A94_26 0 1) <| nd (opS A94_26 1 2) <| nd (opS A94_26 2 3) <| nd (opS A94_26 3 4) <| nd (opS A94_26 4 5) <| nd (opN A94_26 5 6) <| nd (seqK K94_27 K94_28 K94_29) <| nd (regK K94_28 A94_28) <| nd (nilK A94_28 4) <| nd (opS A94_28 0 1) <| nd (opS A94_28 1 2) <| nd (opS A94_28 2 3) <| nd (opS A94_28 3 4) <| nd (condK K94_29 K94_30 K94_33) <| nd (seqK K94_30 K94_31 K94_32) <| nd (regK K94_31 A94_31) <| nd (nilK A94_31 5) <| nd (opS A94_31 0 1) <| nd (opS A94_31 1 2) <| nd (opS A94_31 2 3) <| nd (opS A94_31 3 4) <| nd (opN A94_31 4 5) <| nd (regK K94_32 A94_32) <| nd (nilK A94_32 3) <| nd (opS A94_32 0 1) <| nd (opS A94_32 1 2) <| nd (opS A94_32 2 3) <| nd (skipK K94_33) <| nd (regK K94_34 A94_34) <| nilK A94_34 3)
theorem code94_1 : type_of% xcode94_1.down := xcode94_1.down
noncomputable def xcode94_2 := PLift.up (nd (opS A94_34 0 1) <| nd (opS A94_34 1 2) <| nd (opS A94_34 2 3) <| nd (seqK K94_35 K94_36 K94_37) <| nd (regK K94_36 A94_36) <| nd (nilK A94_36 4) <| nd (opS A94_36 0 1) <| nd (opS A94_36 1 2) <| nd (opS A94_36 2 3) <| nd (opN A94_36 3 4) <| nd (seqK K94_37 K94_38 K94_39) <| nd (regK K94_38 A94_38) <| nd (nilK A94_38 4) <| nd (opS A94_38 0 1) <| nd (opS A94_38 1 2) <| nd (opS A94_38 2 3) <| nd (opS A94_38 3 4) <| retK K94_39)
theorem code94_2 : type_of% xcode94_2.down := xcode94_2.down
noncomputable def xty94 := PLift.up (nd @al39 <| nd @ix23 <| nd @ld39 <| nd @ln23 <| @fi94)
theorem ty94 : type_of% xty94.down := xty94.down

noncomputable def K34_0 := Try.f34.body.getD .skip
noncomputable def K34_1 := lft K34_0
noncomputable def A34_1 := rops K34_1
noncomputable def K34_2 := rgt K34_0
noncomputable def K34_3 := lft K34_2
noncomputable def A34_3 := rops K34_3
noncomputable def K34_4 := rgt K34_2
noncomputable def K34_5 := lft K34_4
noncomputable def A34_5 := rops K34_5
noncomputable def K34_6 := rgt K34_4
theorem body34 : Try.f34.body = some K34_0 := by kernel_rfl
noncomputable def xcode34_0 := PLift.up (nd (seqK K34_0 K34_1 K34_2) <| nd (regK K34_1 A34_1) <| nd (nilK A34_1 1) <| nd (opS A34_1 0 1) <| nd (seqK K34_2 K34_3 K34_4) <| nd (regK K34_3 A34_3) <| nd (nilK A34_3 4) <| nd (opS A34_3 0 1) <| nd (opS A34_3 1 2) <| nd (opS A34_3 2 3) <| nd (opN A34_3 3 4) <| nd (seqK K34_4 K34_5 K34_6) <| nd (regK K34_5 A34_5) <| nd (nilK A34_5 5) <| nd (opS A34_5 0 1) <| nd (opS A34_5 1 2) <| nd (opS A34_5 2 3) <| nd (opS A34_5 3 4) <| nd (opS A34_5 4 5) <| retK K34_6)
theorem code34_0 : type_of% xcode34_0.down := xcode34_0.down
noncomputable def xty34 := PLift.up (nd @al23 <| @fi34)
theorem ty34 : type_of% xty34.down := xty34.down

noncomputable def K95_0 := Try.f95.body.getD .skip
noncomputable def K95_1 := lft K95_0
noncomputable def A95_1 := rops K95_1
noncomputable def K95_2 := rgt K95_0
noncomputable def K95_3 := lft K95_2
noncomputable def A95_3 := rops K95_3
noncomputable def K95_4 := rgt K95_2
noncomputable def K95_5 := lft K95_4
noncomputable def A95_5 := rops K95_5
noncomputable def K95_6 := rgt K95_4
theorem body95 : Try.f95.body = some K95_0 := by kernel_rfl
noncomputable def xcode95_0 := PLift.up (nd (seqK K95_0 K95_1 K95_2) <| nd (regK K95_1 A95_1) <| nd (nilK A95_1 2) <| nd (opS A95_1 0 1) <| nd (opS A95_1 1 2) <| nd (seqK K95_2 K95_3 K95_4) <| nd (regK K95_3 A95_3) <| nd (nilK A95_3 8) <| nd (opS A95_3 0 1) <| nd (opS A95_3 1 2) <| nd (opS A95_3 2 3) <| nd (opS A95_3 3 4) <| nd (opS A95_3 4 5) <| nd (opS A95_3 5 6) <| nd (opS A95_3 6 7) <| nd (opS A95_3 7 8) <| nd (seqK K95_4 K95_5 K95_6) <| nd (regK K95_5 A95_5) <| nd (nilK A95_5 2) <| nd (opS A95_5 0 1) <| nd (opS A95_5 1 2) <| retK K95_6)
theorem code95_0 : type_of% xcode95_0.down := xcode95_0.down
noncomputable def xty95 := PLift.up (nd @ld23 <| nd @ld39 <| @fi95)
theorem ty95 : type_of% xty95.down := xty95.down

noncomputable def K30_0 := Try.f30.body.getD .skip
noncomputable def K30_1 := lft K30_0
noncomputable def A30_1 := rops K30_1
noncomputable def K30_2 := rgt K30_0
noncomputable def K30_3 := lft K30_2
noncomputable def A30_3 := rops K30_3
noncomputable def K30_4 := rgt K30_2
noncomputable def K30_5 := lft K30_4
noncomputable def K30_6 := lft K30_5
noncomputable def A30_6 := rops K30_6
noncomputable def K30_7 := rgt K30_5
noncomputable def K30_8 := lft K30_7
noncomputable def K30_9 := lft K30_8
noncomputable def K30_10 := lft K30_9
noncomputable def A30_10 := rops K30_10
noncomputable def K30_11 := rgt K30_9
noncomputable def K30_12 := lft K30_11
noncomputable def K30_13 := lft K30_12
noncomputable def K30_14 := rgt K30_12
noncomputable def K30_15 := rgt K30_11
noncomputable def K30_16 := lft K30_15
noncomputable def K30_17 := lft K30_16
noncomputable def K30_18 := lft K30_17
noncomputable def A30_18 := rops K30_18
noncomputable def K30_19 := rgt K30_17
noncomputable def A30_19 := rops K30_19
noncomputable def K30_20 := rgt K30_15
noncomputable def A30_20 := rops K30_20
noncomputable def K30_21 := rgt K30_4
noncomputable def K30_22 := lft K30_21
noncomputable def A30_22 := rops K30_22
noncomputable def K30_23 := rgt K30_21
theorem body30 : Try.f30.body = some K30_0 := by kernel_rfl
noncomputable def xcode30_0 := PLift.up (nd (seqK K30_0 K30_1 K30_2) <| nd (regK K30_1 A30_1) <| nd (nilK A30_1 1) <| nd (opS A30_1 0 1) <| nd (seqK K30_2 K30_3 K30_4) <| nd (regK K30_3 A30_3) <| nd (nilK A30_3 1) <| nd (opS A30_3 0 1) <| nd (seqK K30_4 K30_5 K30_21) <| nd (seqK K30_5 K30_6 K30_7) <| nd (regK K30_6 A30_6) <| nd (nilK A30_6 3) <| nd (opS A30_6 0 1) <| nd (opS A30_6 1 2) <| nd (opS A30_6 2 3) <| nd (blkK K30_7 K30_8) <| nd (loopK K30_8 K30_9) <| nd (seqK K30_9 K30_10 K30_11) <| nd (regK K30_10 A30_10) <| nd (nilK A30_10 1) <| nd (opS A30_10 0 1) <| nd (seqK K30_11 K30_12 K30_15) <| nd (condK K30_12 K30_13 K30_14) <| nd (skipK K30_13) <| nd (exitK K30_14) <| nd (seqK K30_15 K30_16 K30_20) <| nd (blkK K30_16 K30_17) <| nd (seqK K30_17 K30_18 K30_19) <| nd (regK K30_18 A30_18) <| nd (nilK A30_18 3) <| nd (opS A30_18 0 1) <| nd (opS A30_18 1 2) <| nd (opS A30_18 2 3) <| nd (regK K30_19 A30_19) <| nd (nilK A30_19 4) <| nd (opS A30_19 0 1) <| nd (opS A30_19 1 2) <| nd (opS A30_19 2 3) <| nd (opS A30_19 3 4) <| regK K30_20 A30_20)
theorem code30_0 : type_of% xcode30_0.down := xcode30_0.down
noncomputable def xcode30_1 := PLift.up (nd (nilK A30_20 2) <| nd (opS A30_20 0 1) <| nd (opS A30_20 1 2) <| nd (seqK K30_21 K30_22 K30_23) <| nd (regK K30_22 A30_22) <| nd (nilK A30_22 3) <| nd (opS A30_22 0 1) <| nd (opS A30_22 1 2) <| nd (opS A30_22 2 3) <| retK K30_23)
theorem code30_1 : type_of% xcode30_1.down := xcode30_1.down
noncomputable def xty30 := PLift.up (nd @ix81 <| nd @ld23 <| nd @ln81 <| @fi30)
theorem ty30 : type_of% xty30.down := xty30.down












end Go.Proofs.Ytompindebndddaa
namespace Go.Proofs.Ytompindebndddaa
open Go.Am
set_option linter.unusedSimpArgs false
set_option linter.unusedVariables false
set_option maxRecDepth 100000
set_option maxHeartbeats 0
theorem ok_sameAtoms (l m : List AtomD) (v u : Value) (h : Heap) (hl : Sl Rep.atom h v l) (hm : Sl Rep.atom h u m) (hs : l.length ≤ 1000) (hs2 : m.length ≤ 1000) (K : Value → Heap → Prop)
    (hk : ∀ h', Ext h h' → K (.bool (decide (l = m))) h') : Ok Try.prog tab ov 32 [v, u] h K := by
  rw [lay_nil h]
  have z := Ext.refl h
  have hln := fun (hh : Heap) => hl.lenA ds23 hh
  have hlm := fun (hh : Heap) => hm.lenA ds23 hh
  refine Ok.into rfl tab_fn32 body32 rfl (m := 24) rfl ?_
  simp -implicitDefEqProofs only [syms, symx, Nat.reduceAdd, Nat.reduceMul, Int.reduceLT, Int.reduceLE, Int.reduceAdd, Int.reduceSub, Int.reduceToNat, Int.reduceNeg, reduceIte, Nat.reduceGT, Nat.reduceLT, Nat.reduceLeDiff, code32_0, code32_1, ty32, hln, hlm]
  refine forkN (fun hne => ?_) (fun heq => ?_)
  · rw [decide_eq_false (show ¬ l = m from fun e => by subst e; exact hne rfl)] at hk
    repeat' (first
      | simp -implicitDefEqProofs only [syms, symx, Nat.reduceAdd, Nat.reduceMul, Int.reduceLT, Int.reduceLE, Int.reduceAdd, Int.reduceSub, Int.reduceToNat, Int.reduceNeg, reduceIte, Nat.reduceGT, Nat.reduceLT, Nat.reduceLeDiff, code32_0, code32_1, ty32]
      | ((with_reducible first | apply forkD | apply forkB | apply forkN | apply forkNP | apply forkNot) <;> intro _)
      | ((with_reducible_and_instances apply unop_not); (· rfl))
      | ((with_reducible refine ⟨z.grw.lay _ _, ?_⟩); (intro _ h' zz x _); (try simp only [lay_lay, List.append_nil] at x); (replace z := zz); (clear zz); rw [lay_nil h']))
    exact hk _ (z.upW _ _ (by omega))
  have hlen : l.length = m.length := by omega
  repeat' (first
    | simp -implicitDefEqProofs only [syms, symx, Nat.reduceAdd, Nat.reduceMul, Int.reduceLT, Int.reduceLE, Int.reduceAdd, Int.reduceSub, Int.reduceToNat, Int.reduceNeg, reduceIte, Nat.reduceGT, Nat.reduceLT, Nat.reduceLeDiff, code32_0, code32_1, ty32]
    | ((with_reducible first | apply forkD | apply forkB | apply forkN | apply forkNP | apply forkNot) <;> intro _)
    | ((with_reducible_and_instances apply unop_not); (· rfl))
    | ((with_reducible refine ⟨z.grw.lay _ _, ?_⟩); (intro _ h' zz x _); (try simp only [lay_lay, List.append_nil] at x); (replace z := zz); (clear zz); rw [lay_nil h']))
  obtain ⟨I1, hI1⟩ : ∃ I : Nat → Env → Heap → Prop, I = (fun n e h' => ∃ (i : Nat) (h1 : Heap), h' = h1.lay [] h1.low ∧ Ext h h1 ∧ (n = l.length - i ∧ i ≤ l.length ∧ l.take i = m.take i) ∧ ∃ J : Nat → Value, e = (v :: u :: J 2 :: J 3 :: J 4 :: .int .i64 i :: J 6 :: J 7 :: J 8 :: J 9 :: J 10 :: J 11 :: J 12 :: J 13 :: J 14 :: J 15 :: J 16 :: J 17 :: J 18 :: J 19 :: J 20 :: J 21 :: J 22 :: J 23 :: J 24 :: J 25 :: [])) := ⟨_, rfl⟩
  refine W_loopN I1 _ (by rw [hI1]; exact ⟨0, _, rfl, z, ⟨rfl, by omega, rfl⟩, junk (by kernel_rfl)⟩) ?_
  intro n e h' hin
  rw [hI1] at hin
  obtain ⟨i, h1', rfl, z, hinv, J, rfl⟩ := hin
  obtain ⟨rfl, hi, htk⟩ := hinv
  have hw : IntKind.i64.wrap ((i : Int) + 1) = ((i + 1 : Nat) : Int) := by rw [wrap_i64 (by omega) (by omega)]; omega
  simp -implicitDefEqProofs only [syms, symx, Nat.reduceAdd, Nat.reduceMul, Int.reduceLT, Int.reduceLE, Int.reduceAdd, Int.reduceSub, Int.reduceToNat, Int.reduceNeg, reduceIte, Nat.reduceGT, Nat.reduceLT, Nat.reduceLeDiff, code32_0, code32_1, ty32, hln]
  refine forkD (fun hlt => ?_) (fun hlt => ?_)
  rotate_left
  · rw [List.take_of_length_le (by omega), List.take_of_length_le (by omega)] at htk
    rw [decide_eq_true htk] at hk
    repeat' (first
      | simp -implicitDefEqProofs only [syms, symx, Nat.reduceAdd, Nat.reduceMul, Int.reduceLT, Int.reduceLE, Int.reduceAdd, Int.reduceSub, Int.reduceToNat, Int.reduceNeg, reduceIte, Nat.reduceGT, Nat.reduceLT, Nat.reduceLeDiff, code32_0, code32_1, ty32]
      | ((with_reducible first | apply forkD | apply forkB | apply forkN | apply forkNP | apply forkNot) <;> intro _)
      | ((with_reducible_and_instances apply unop_not); (· rfl))
      | ((with_reducible refine ⟨z.grw.lay _ _, ?_⟩); (intro _ h' zz x _); (try simp only [lay_lay, List.append_nil] at x); (replace z := zz); (clear zz); rw [lay_nil h']))
    exact hk _ (z.upW _ _ (by omega))
  obtain ⟨r, hr, hr'⟩ := amElem (l := l) (i := i) (by omega)
  obtain ⟨s, hs, hs'⟩ := amElem (l := m) (i := i) (by omega)
  simp -implicitDefEqProofs only [syms, symx, Nat.reduceAdd, Nat.reduceMul, Int.reduceLT, Int.reduceLE, Int.reduceAdd, Int.reduceSub, Int.reduceToNat, Int.reduceNeg, reduceIte, Nat.reduceGT, Nat.reduceLT, Nat.reduceLeDiff, code32_0, code32_1, ty32]
  repeat' ((first
    | ((with_reducible first | apply forkD | apply forkB | apply forkN | apply forkNP | apply forkNot) <;> intro _)
    | with_reducible_and_instances refine ixa_at (hl.mono z.inc) ds23 sz39 (by omega) hr (fun p hp => ?_)
    | with_reducible_and_instances refine ixa_at (hm.mono z.inc) ds23 sz39 (by omega) hs (fun p hp => ?_)
    | with_reducible_and_instances refine lda hp ag39 sz39 ?_
    | ((with_reducible_and_instances apply unop_not); (· rfl))
    | with_reducible refine D32_24 (z.upW _ _ (by omega)) ?_
    | ((with_reducible refine ⟨z.grw.lay _ _, ?_⟩); (intro _ h' zz x _); (try simp only [lay_lay, List.append_nil] at x); (replace z := zz); (clear zz); rw [lay_nil h'])) <;> simp -implicitDefEqProofs only [syms, symx, Nat.reduceAdd, Nat.reduceMul, Int.reduceLT, Int.reduceLE, Int.reduceAdd, Int.reduceSub, Int.reduceToNat, Int.reduceNeg, reduceIte, Nat.reduceGT, Nat.reduceLT, Nat.reduceLeDiff, code32_0, code32_1, ty32, bin_atomN])
  · have hne : ¬ r = s := by assumption
    rw [decide_eq_false (show ¬ l = m from fun e => by
      subst e
      rw [hr'] at hs'
      exact hne (Option.some.inj hs'))] at hk
    exact hk _ (z.upW _ _ (by omega))
  · have he : r = s := by assumption
    rw [hw]
    (rw [hI1]; with_reducible refine loopN_normal (m := _) ?_ ⟨i + 1, _, rfl, z, ⟨rfl, by omega, by rw [List.take_add_one, List.take_add_one, hr', hs', htk, he]⟩, junk (by kernel_rfl)⟩; omega)
theorem ok_indexAtomM (l : List AtomD) (v fv : Value) (pr : AtomD → Bool) (hb h : Heap) (z0 : Ext hb h) (hl : Sl Rep.atom h v l) (hn : l.length ≤ 1000) (hpf : ∀ x ∈ l, ∀ (hc : Heap) (K : Value → Heap → Prop), Ext hb hc → (∀ h', Ext hc h' → K (.bool (pr x)) h') → callE Try.prog tab ov [x.val] hc K fv) (K : Value → Heap → Prop)
    (hk : ∀ h', Ext h h' → K (.int .i64 (idxP pr l)) h') : Ok Try.prog tab ov 132 [v, fv] h K := by
  rw [lay_nil h]
  have z := Ext.refl h
  refine Ok.into rfl tab_fn132 body132 rfl (m := 17) rfl ?_
  simp -implicitDefEqProofs only [syms, symx, Nat.reduceAdd, Nat.reduceMul, Int.reduceLT, Int.reduceLE, Int.reduceAdd, Int.reduceSub, Int.reduceToNat, Int.reduceNeg, reduceIte, Nat.reduceGT, Nat.reduceLT, Nat.reduceLeDiff, code132_0, code132_1, ty132]
  repeat' ((first
    | ((with_reducible first | apply forkD | apply forkB | apply forkN | apply forkNP | apply forkNot) <;> intro _)
    | with_reducible_and_instances refine ln_rule hl ds23 ?_
    | ((with_reducible_and_instances apply unop_not); (· rfl))) <;> simp -implicitDefEqProofs only [syms, symx, Nat.reduceAdd, Nat.reduceMul, Int.reduceLT, Int.reduceLE, Int.reduceAdd, Int.reduceSub, Int.reduceToNat, Int.reduceNeg, reduceIte, Nat.reduceGT, Nat.reduceLT, Nat.reduceLeDiff, code132_0, code132_1, ty132])
  obtain ⟨I1, hI1⟩ : ∃ I : Nat → Env → Heap → Prop, I = (fun n e h' => ∃ (i : Nat) (h1 : Heap), h' = h1.lay [] h1.low ∧ Ext h h1 ∧ (n = l.length - i ∧ i ≤ l.length ∧ ∀ x ∈ l.take i, pr x = false) ∧ ∃ J : Nat → Value, e = (v :: fv :: J 2 :: J 3 :: J 4 :: J 5 :: J 6 :: .int .i64 l.length :: .int .i64 i :: J 9 :: J 10 :: J 11 :: J 12 :: J 13 :: J 14 :: J 15 :: J 16 :: J 17 :: J 18 :: [])) := ⟨_, rfl⟩
  refine W_loopN I1 _ (by rw [hI1]; exact ⟨0, _, rfl, z, ⟨rfl, by omega, by simp⟩, junk (by kernel_rfl)⟩) ?_
  intro n e h' hin
  rw [hI1] at hin
  obtain ⟨i, h1', rfl, z, hinv, J, rfl⟩ := hin
  obtain ⟨rfl, hi, hall⟩ := hinv
  have hw : IntKind.i64.wrap ((i : Int) + 1) = ((i + 1 : Nat) : Int) := by rw [wrap_i64 (by omega) (by omega)]; omega
  repeat' (first
    | simp -implicitDefEqProofs only [syms, symx, Nat.reduceAdd, Nat.reduceMul, Int.reduceLT, Int.reduceLE, Int.reduceAdd, Int.reduceSub, Int.reduceToNat, Int.reduceNeg, reduceIte, Nat.reduceGT, Nat.reduceLT, Nat.reduceLeDiff, code132_0, code132_1, ty132]
    | ((with_reducible first | apply forkD | apply forkB | apply forkN | apply forkNP | apply forkNot) <;> intro _)
    | with_reducible_and_instances refine ln_rule hl ds23 ?_
    | ((with_reducible_and_instances apply unop_not); (· rfl)))
  rotate_left
  · rw [List.take_of_length_le (by omega)] at hall
    have := idx_none hall
    rw [this] at hk
    exact hk _ (z.upW _ _ (by omega))
  obtain ⟨r, hr, hr'⟩ := amElem (l := l) (i := i) (by assumption)
  repeat' ((first
    | ((with_reducible first | apply forkD | apply forkB | apply forkN | apply forkNP | apply forkNot) <;> intro _)
    | with_reducible_and_instances refine ixa_at (hl.mono z.inc) ds23 sz39 (by omega) hr (fun p hp => ?_)
    | with_reducible_and_instances refine lda hp ag39 sz39 ?_
    | ((with_reducible_and_instances apply unop_not); (· rfl))) <;> simp -implicitDefEqProofs only [syms, symx, Nat.reduceAdd, Nat.reduceMul, Int.reduceLT, Int.reduceLE, Int.reduceAdd, Int.reduceSub, Int.reduceToNat, Int.reduceNeg, reduceIte, Nat.reduceGT, Nat.reduceLT, Nat.reduceLeDiff, code132_0, code132_1, ty132])
  refine hpf r (List.mem_of_getElem? hr') _ _ ((z0.trans z).upW _ _ (by omega)) (fun h' x => ?_)
  ((skip); replace z := z.overW x (by (try simp only [lsz]); omega); rw [lay_nil h'])
  cases hx : pr r
  rotate_left
  · simp -implicitDefEqProofs only [syms, symx, Nat.reduceAdd, Nat.reduceMul, Int.reduceLT, Int.reduceLE, Int.reduceAdd, Int.reduceSub, Int.reduceToNat, Int.reduceNeg, reduceIte, Nat.reduceGT, Nat.reduceLT, Nat.reduceLeDiff, code132_0, code132_1, ty132]
    have := idx_found hr' hall hx
    rw [this] at hk
    exact hk _ (z.upW _ _ (by omega))
  · simp -implicitDefEqProofs only [syms, symx, Nat.reduceAdd, Nat.reduceMul, Int.reduceLT, Int.reduceLE, Int.reduceAdd, Int.reduceSub, Int.reduceToNat, Int.reduceNeg, reduceIte, Nat.reduceGT, Nat.reduceLT, Nat.reduceLeDiff, code132_0, code132_1, ty132]
    rw [hw]
    (rw [hI1]; with_reducible refine loopN_normal (m := _) ?_ ⟨i + 1, _, rfl, z, ⟨rfl, by omega, take_all (i := i) (P := fun x : AtomD => pr x = false) hr' hall hx⟩, junk (by kernel_rfl)⟩; omega)
theorem ok_deleteFunc (s t : List AtomD) (fv : Value) (pr : AtomD → Bool) (A c : Nat) (h hs : Heap) (z : Ext h hs) (hA : h.size ≤ A) (q : Holds hs A (.row (rowA (s ++ t)) 39 false)) (hc : c = G * 11 + (s ++ t).length) (hn : (s ++ t).length ≤ 100000) (hsn : s.length ≤ 1000)
    (hpf : ∀ x ∈ s, ∀ (hc : Heap) (K : Value → Heap → Prop), Ext h hc → (∀ h', Ext hc h' → K (.bool (pr x)) h') → callE Try.prog tab ov [x.val] hc K fv) (K : Value → Heap → Prop)
    (hk : ∀ h' w, Ext h h' → OwnA h h' 39 w (s.filter (fun x => !pr x)) → K w h') : Ok Try.prog tab ov 94 [.slice (some ⟨A, 0, none⟩) s.length c, fv] hs K := by
  have hO : OwnA h hs 39 (.slice (some ⟨A, 0, none⟩) s.length c) s := own_part q hA (by omega) rfl hc
  rw [lay_nil hs]
  refine Ok.into rfl tab_fn94 body94 rfl (m := 40) rfl ?_
  repeat' (first
    | simp -implicitDefEqProofs only [syms, symx, Nat.reduceAdd, Nat.reduceMul, Int.reduceLT, Int.reduceLE, Int.reduceAdd, Int.reduceSub, Int.reduceToNat, Int.reduceNeg, reduceIte, Nat.reduceGT, Nat.reduceLT, Nat.reduceLeDiff, code94_0, code94_1, code94_2, ty94]
    | ((with_reducible first | apply forkD | apply forkB | apply forkN | apply forkNP | apply forkNot) <;> intro _)
    | with_reducible_and_instances refine ixa_at (hl.mono z.inc) ds23 sz39 (by omega) hr (fun p hp => ?_)
    | with_reducible_and_instances refine lda hp ag39 sz39 ?_
    | ((with_reducible_and_instances apply unop_not); (· rfl)))
  refine ok_indexAtomM s (.slice (some ⟨A, 0, none⟩) s.length c) fv pr h _ (z.upW _ _ (by omega)) (hO.sl.lay _ _) hsn hpf _ (fun h' x => ?_)
  replace z := (z.upW _ _ (by omega)).trans x
  replace q := (q.on _ _).ext x
  rw [lay_nil h']
  have hfi : idxP pr s = -1 ∧ (∀ x ∈ s, pr x = false) ∨ ∃ i : Nat, idxP pr s = i ∧ i < s.length ∧ pr (s.getD i noAtomD) = true ∧ ∀ x ∈ s.take i, pr x = false := idx_cases s
  simp -implicitDefEqProofs only [syms, symx, Nat.reduceAdd, Nat.reduceMul, Int.reduceLT, Int.reduceLE, Int.reduceAdd, Int.reduceSub, Int.reduceToNat, Int.reduceNeg, reduceIte, Nat.reduceGT, Nat.reduceLT, Nat.reduceLeDiff, code94_0, code94_1, code94_2, ty94]
  rcases hfi with ⟨e, hall⟩ | ⟨i0, e, hi0, hpi, hall⟩
  · rw [e]
    refine forkB (fun _ => ?_) (fun hh => absurd rfl hh)
    repeat' (first
      | simp -implicitDefEqProofs only [syms, symx, Nat.reduceAdd, Nat.reduceMul, Int.reduceLT, Int.reduceLE, Int.reduceAdd, Int.reduceSub, Int.reduceToNat, Int.reduceNeg, reduceIte, Nat.reduceGT, Nat.reduceLT, Nat.reduceLeDiff, code94_0, code94_1, code94_2, ty94]
      | ((with_reducible first | apply forkD | apply forkB | apply forkN | apply forkNP | apply forkNot) <;> intro _)
      | with_reducible_and_instances refine ixa_at (hl.mono z.inc) ds23 sz39 (by omega) hr (fun p hp => ?_)
      | with_reducible_and_instances refine lda hp ag39 sz39 ?_
      | ((with_reducible_and_instances apply unop_not); (· rfl)))
    rw [List.filter_eq_self.2 (fun x hx => by rw [hall x hx]; rfl)] at hk
    exact hk _ _ (z.upW _ _ (by omega)) (own_part (q.on _ _) hA (by omega) rfl hc)
  rw [e]
  refine forkB (fun hh => ?_) (fun _ => ?_)
  · exfalso
    omega
  have hwi : IntKind.i64.wrap ((i0 : Int) + 1) = ((i0 + 1 : Nat) : Int) := by rw [wrap_i64 (by omega) (by omega)]; omega
  repeat' (first
    | simp -implicitDefEqProofs only [syms, symx, Nat.reduceAdd, Nat.reduceMul, Int.reduceLT, Int.reduceLE, Int.reduceAdd, Int.reduceSub, Int.reduceToNat, Int.reduceNeg, reduceIte, Nat.reduceGT, Nat.reduceLT, Nat.reduceLeDiff, code94_0, code94_1, code94_2, ty94, hwi]
    | ((with_reducible first | apply forkD | apply forkB | apply forkN | apply forkNP | apply forkNot) <;> intro _)
    | with_reducible_and_instances refine ixa_at (hl.mono z.inc) ds23 sz39 (by omega) hr (fun p hp => ?_)
    | with_reducible_and_instances refine lda hp ag39 sz39 ?_
    | ((with_reducible_and_instances apply unop_not); (· rfl)))
  obtain ⟨I1, hI1⟩ : ∃ I : Nat → Env → Heap → Prop, I = (fun n e h' => ∃ (i j : Nat) (cur : List AtomD) (h1 : Heap), h' = h1.lay [] h1.low ∧ Ext h h1 ∧ (n = s.length - j ∧ i < j ∧ j ≤ s.length ∧ cur.length = (s ++ t).length ∧ cur.take i = (s.take j).filter (fun x => !pr x) ∧ (∀ p, j ≤ p → cur.getD p noAtomD = (s ++ t).getD p noAtomD) ∧ Holds h1 A (.row (rowA cur) 39 false)) ∧ ∃ J : Nat → Value, e = (.slice (some ⟨A, 0, none⟩) s.length c :: fv :: J 2 :: J 3 :: J 4 :: .int .i64 i :: .int .i64 j :: J 7 :: J 8 :: J 9 :: J 10 :: J 11 :: J 12 :: J 13 :: J 14 :: J 15 :: J 16 :: J 17 :: J 18 :: J 19 :: J 20 :: J 21 :: J 22 :: J 23 :: J 24 :: J 25 :: J 26 :: J 27 :: J 28 :: J 29 :: J 30 :: J 31 :: J 32 :: J 33 :: J 34 :: J 35 :: J 36 :: J 37 :: J 38 :: J 39 :: J 40 :: J 41 :: [])) := ⟨_, rfl⟩
  refine W_loopN I1 _ (by rw [hI1]; exact ⟨i0, i0 + 1, s ++ t, _, rfl, z, ⟨rfl, by omega, by omega, rfl, del_start hi0 hpi hall, fun _ _ => rfl, q⟩, junk (by kernel_rfl)⟩) ?_
  intro n e h' hin
  rw [hI1] at hin
  obtain ⟨i, j, cur, h1', rfl, z, hinv, J, rfl⟩ := hin
  clear q
  obtain ⟨rfl, hij, hjs, hcl, htk, hce, q⟩ := hinv
  have hsl : s.length ≤ (s ++ t).length := by rw [List.length_append]; omega
  have hwj : IntKind.i64.wrap ((j : Int) + 1) = ((j + 1 : Nat) : Int) := by rw [wrap_i64 (by omega) (by omega)]; omega
  have hwi2 : IntKind.i64.wrap ((i : Int) + 1) = ((i + 1 : Nat) : Int) := by rw [wrap_i64 (by omega) (by omega)]; omega
  simp -implicitDefEqProofs only [syms, symx, Nat.reduceAdd, Nat.reduceMul, Int.reduceLT, Int.reduceLE, Int.reduceAdd, Int.reduceSub, Int.reduceToNat, Int.reduceNeg, reduceIte, Nat.reduceGT, Nat.reduceLT, Nat.reduceLeDiff, code94_0, code94_1, code94_2, ty94]
  refine forkD (fun hlt => ?_) (fun hlt => ?_)
  rotate_left
  · have hjs2 : j = s.length := by omega
    have his : i ≤ s.length := by omega
    simp -implicitDefEqProofs only [syms, symx, Nat.reduceAdd, Nat.reduceMul, Int.reduceLT, Int.reduceLE, Int.reduceAdd, Int.reduceSub, Int.reduceToNat, Int.reduceNeg, reduceIte, Nat.reduceGT, Nat.reduceLT, Nat.reduceLeDiff, code94_0, code94_1, code94_2, ty94]
    rw [hc, open_from ds23 sz39 his hsl (by omega), ← hc]
    obtain ⟨C3, hC3⟩ : ∃ C3, C3 = G * 11 + ((s ++ t).length - i) := ⟨_, rfl⟩
    rw [← hC3]
    simp -implicitDefEqProofs only [syms, symx, Nat.reduceAdd, Nat.reduceMul, Int.reduceLT, Int.reduceLE, Int.reduceAdd, Int.reduceSub, Int.reduceToNat, Int.reduceNeg, reduceIte, Nat.reduceGT, Nat.reduceLT, Nat.reduceLeDiff, code94_0, code94_1, code94_2, ty94, w_clear]
    refine clear_mid q ds23 tab_info39 (by omega) (fun h3 q3 c3 => ?_)
    replace z := z.stepW c3 hA (by omega)
    rw [lay_nil h3]
    clear q
    simp -implicitDefEqProofs only [syms, symx, Nat.reduceAdd, Nat.reduceMul, Int.reduceLT, Int.reduceLE, Int.reduceAdd, Int.reduceSub, Int.reduceToNat, Int.reduceNeg, reduceIte, Nat.reduceGT, Nat.reduceLT, Nat.reduceLeDiff, code94_0, code94_1, code94_2, ty94]
    rw [hc, open_to ds23 sz39 his hsl (by omega), ← hc]
    repeat' (first
      | simp -implicitDefEqProofs only [syms, symx, Nat.reduceAdd, Nat.reduceMul, Int.reduceLT, Int.reduceLE, Int.reduceAdd, Int.reduceSub, Int.reduceToNat, Int.reduceNeg, reduceIte, Nat.reduceGT, Nat.reduceLT, Nat.reduceLeDiff, code94_0, code94_1, code94_2, ty94]
      | ((with_reducible first | apply forkD | apply forkB | apply forkN | apply forkNP | apply forkNot) <;> intro _)
      | with_reducible_and_instances refine ixa_at (hl.mono z.inc) ds23 sz39 (by omega) hr (fun p hp => ?_)
      | with_reducible_and_instances refine lda hp ag39 sz39 ?_
      | ((with_reducible_and_instances apply unop_not); (· rfl)))
    rw [htk, hjs2, List.take_length] at q3
    have hlen : i = (s.filter (fun x => !pr x)).length := by
      have := congrArg List.length htk
      rw [List.length_take, hjs2, List.take_length] at this
      omega
    have hlen2 : (s.filter (fun x => !pr x) ++ (List.replicate (s.length - i) noAtomD ++ cur.drop (i + (s.length - i)))).length = (s ++ t).length := by
      rw [List.length_append, List.length_append, List.length_replicate, List.length_drop]
      omega
    exact hk _ _ (z.upW _ _ (by omega)) (own_part (q3.on _ _) hA (by omega) hlen (by rw [hlen2]; exact hc))
  have hin : (0 : Int) ≤ (j : Int) ∧ (j : Int) < (s.length : Int) := by omega
  have hini : (0 : Int) ≤ (i : Int) ∧ (i : Int) < (s.length : Int) := by omega
  have hld := fun (bs : List Blk) (w : Nat) => load_atom (bs := bs) (w := w) q (getD_at (l := cur) (i := j) (by omega))
  rw [hce _ (by omega), getD_app (by omega)] at hld
  simp -implicitDefEqProofs only [syms, symx, Nat.reduceAdd, Nat.reduceMul, Int.reduceLT, Int.reduceLE, Int.reduceAdd, Int.reduceSub, Int.reduceToNat, Int.reduceNeg, reduceIte, Nat.reduceGT, Nat.reduceLT, Nat.reduceLeDiff, code94_0, code94_1, code94_2, ty94, hin, and_self, if_true, ↓hld, valE_atom]
  refine store_laid sz39 rfl ?_
  repeat' (first
    | simp -implicitDefEqProofs only [syms, symx, Nat.reduceAdd, Nat.reduceMul, Int.reduceLT, Int.reduceLE, Int.reduceAdd, Int.reduceSub, Int.reduceToNat, Int.reduceNeg, reduceIte, Nat.reduceGT, Nat.reduceLT, Nat.reduceLeDiff, code94_0, code94_1, code94_2, ty94, ↓cut_atom, agg_atom, valE_atom]
    | ((with_reducible first | apply forkD | apply forkB | apply forkN | apply forkNP | apply forkNot) <;> intro _)
    | with_reducible_and_instances refine ixa_at (hl.mono z.inc) ds23 sz39 (by omega) hr (fun p hp => ?_)
    | with_reducible_and_instances refine lda hp ag39 sz39 ?_
    | ((with_reducible_and_instances apply unop_not); (· rfl)))
  refine hpf _ (by have := List.mem_of_getElem? (getD_at (l := s) (i := j) (by omega)); exact this) _ _ (z.upW _ _ (by omega)) (fun h' x => ?_)
  have q1 := Holds.top (i := 0) x rfl
  ((skip); replace z := z.overW x (by (try simp only [lsz]); omega); (try replace q := q.over x); rw [lay_nil h'])
  have hcd := del_drop (pr := pr) (s := s) (j := j) (by omega)
  have hck := del_keep (pr := pr) (s := s) (j := j) (by omega)
  have hce2 : ∀ p, j + 1 ≤ p → cur.getD p noAtomD = (s ++ t).getD p noAtomD := fun p hp => hce p (by omega)
  cases hx : pr (s.getD j noAtomD)
  rotate_left
  · repeat' (first
      | simp -implicitDefEqProofs only [syms, symx, Nat.reduceAdd, Nat.reduceMul, Int.reduceLT, Int.reduceLE, Int.reduceAdd, Int.reduceSub, Int.reduceToNat, Int.reduceNeg, reduceIte, Nat.reduceGT, Nat.reduceLT, Nat.reduceLeDiff, code94_0, code94_1, code94_2, ty94]
      | ((with_reducible first | apply forkD | apply forkB | apply forkN | apply forkNP | apply forkNot) <;> intro _)
      | with_reducible_and_instances refine ixa_at (hl.mono z.inc) ds23 sz39 (by omega) hr (fun p hp => ?_)
      | with_reducible_and_instances refine lda hp ag39 sz39 ?_
      | ((with_reducible_and_instances apply unop_not); (· rfl)))
    rw [hwj]
    (rw [hI1]; with_reducible refine loopN_normal (m := _) ?_ ⟨i, j + 1, cur, _, rfl, z, ⟨rfl, by omega, by omega, hcl, by rw [hcd hx]; exact htk, hce2, q⟩, junk (by kernel_rfl)⟩; omega)
  repeat' (first
    | simp -implicitDefEqProofs only [syms, symx, Nat.reduceAdd, Nat.reduceMul, Int.reduceLT, Int.reduceLE, Int.reduceAdd, Int.reduceSub, Int.reduceToNat, Int.reduceNeg, reduceIte, Nat.reduceGT, Nat.reduceLT, Nat.reduceLeDiff, code94_0, code94_1, code94_2, ty94]
    | ((with_reducible first | apply forkD | apply forkB | apply forkN | apply forkNP | apply forkNot) <;> intro _)
    | with_reducible_and_instances refine ixa_at (hl.mono z.inc) ds23 sz39 (by omega) hr (fun p hp => ?_)
    | with_reducible_and_instances refine lda hp ag39 sz39 ?_
    | ((with_reducible_and_instances apply unop_not); (· rfl)))
  repeat' (first
    | simp -implicitDefEqProofs only [syms, symx, Nat.reduceAdd, Nat.reduceMul, Int.reduceLT, Int.reduceLE, Int.reduceAdd, Int.reduceSub, Int.reduceToNat, Int.reduceNeg, reduceIte, Nat.reduceGT, Nat.reduceLT, Nat.reduceLeDiff, code94_0, code94_1, code94_2, ty94, q1.lay, ↓cut_atom, agg_atom, valE_atom, hini, and_self, if_true]
    | ((with_reducible first | apply forkD | apply forkB | apply forkN | apply forkNP | apply forkNot) <;> intro _)
    | with_reducible_and_instances refine ixa_at (hl.mono z.inc) ds23 sz39 (by omega) hr (fun p hp => ?_)
    | with_reducible_and_instances refine lda hp ag39 sz39 ?_
    | ((with_reducible_and_instances apply unop_not); (· rfl)))
  have hce3 : ∀ p, j + 1 ≤ p → (cur.set i (s.getD j noAtomD)).getD p noAtomD = (s ++ t).getD p noAtomD := by
    intro p hp
    have hne : i ≠ p := by omega
    rw [amGetD_set_ne hne]
    exact hce2 p hp
  have hz := z.size
  refine store_atom q sz39 (by omega) (fun h3 q3 c3 => ?_)
  replace z := z.stepW c3 hA (by omega)
  rw [lay_nil h3]
  clear q q1
  repeat' (first
    | simp -implicitDefEqProofs only [syms, symx, Nat.reduceAdd, Nat.reduceMul, Int.reduceLT, Int.reduceLE, Int.reduceAdd, Int.reduceSub, Int.reduceToNat, Int.reduceNeg, reduceIte, Nat.reduceGT, Nat.reduceLT, Nat.reduceLeDiff, code94_0, code94_1, code94_2, ty94]
    | ((with_reducible first | apply forkD | apply forkB | apply forkN | apply forkNP | apply forkNot) <;> intro _)
    | with_reducible_and_instances refine ixa_at (hl.mono z.inc) ds23 sz39 (by omega) hr (fun p hp => ?_)
    | with_reducible_and_instances refine lda hp ag39 sz39 ?_
    | ((with_reducible_and_instances apply unop_not); (· rfl)))
  rw [hwi2, hwj]
  (rw [hI1]; with_reducible refine loopN_normal (m := _) ?_ ⟨i + 1, j + 1, cur.set i (s.getD j noAtomD), _, rfl, z, ⟨rfl, by omega, by omega, by rw [List.length_set]; exact hcl, by rw [take_set (by omega), hck hx, htk], hce3, q3⟩, junk (by kernel_rfl)⟩; omega)
end Go.Proofs.Ytompindebndddaa
namespace Go.Proofs.Ytompindebndddaa
open Go.Am
set_option linter.unusedSimpArgs false
set_option linter.unusedVariables false
set_option maxRecDepth 100000
set_option maxHeartbeats 0
theorem ok_minus1 (s : List AtomD) (w : Value) (a : AtomD) (B : Nat) (h : Heap) (hl : Sl Rep.atom h w s) (hs : AscD s) (hn : s.length ≤ 1000) (hlt : ∀ x ∈ s, x.light = true) (ha : a.light = true) (q0 : Holds h B (.row [w] 23 false)) (K : Value → Heap → Prop)
    (hk : ∀ h', Ext h h' → K (.bool (hasA s a)) h') : Ok Try.prog tab ov 95 [a.val, .pointer (some ⟨B, 0, none⟩)] h K := by
  rw [lay_nil h]
  have z := Ext.refl h
  have hva : ∀ (h : Heap) (K : Value → Heap → Prop), valE (some w) h K = K w h := fun _ _ => rfl
  refine Ok.into rfl tab_fn95 body95 rfl (m := 11) rfl ?_
  repeat' (first
    | simp -implicitDefEqProofs only [syms, symx, Nat.reduceAdd, Nat.reduceMul, Int.reduceLT, Int.reduceLE, Int.reduceAdd, Int.reduceSub, Int.reduceToNat, Int.reduceNeg, reduceIte, Nat.reduceGT, Nat.reduceLT, Nat.reduceLeDiff, code95_0, ty95, q0.lay, hva, cells_atom, ↓cut_atom, agg_atom, valE_atom]
    | ((with_reducible first | apply forkD | apply forkB | apply forkN | apply forkNP | apply forkNot) <;> intro _)
    | ((with_reducible_and_instances apply unop_not); (· rfl)))
  refine ok_place s a w _ (hl.lay _ _) hs hn hlt ha _ (fun h' i x hp => ?_)
  ((skip); replace z := z.overW x (by (try simp only [lsz]); omega); rw [lay_nil h'])
  generalize hasA s a = b at hk ⊢
  cases b
  all_goals
    repeat' (first
      | simp -implicitDefEqProofs only [syms, symx, Nat.reduceAdd, Nat.reduceMul, Int.reduceLT, Int.reduceLE, Int.reduceAdd, Int.reduceSub, Int.reduceToNat, Int.reduceNeg, reduceIte, Nat.reduceGT, Nat.reduceLT, Nat.reduceLeDiff, code95_0, ty95]
      | ((with_reducible first | apply forkD | apply forkB | apply forkN | apply forkNP | apply forkNot) <;> intro _)
      | ((with_reducible_and_instances apply unop_not); (· rfl)))
    exact hk _ (z.upW _ _ (by omega))
theorem ok_deleteNil (v fv : Value) (h : Heap) (hl : Sl Rep.atom h v []) (K : Value → Heap → Prop) (hk : ∀ h', Ext h h' → K v h') : Ok Try.prog tab ov 94 [v, fv] h K := by
  rw [lay_nil h]
  have z := Ext.refl h
  have hva : ∀ (h : Heap) (K : Value → Heap → Prop), valE (some v) h K = K v h := fun _ _ => rfl
  refine Ok.into rfl tab_fn94 body94 rfl (m := 40) rfl ?_
  repeat' (first
    | simp -implicitDefEqProofs only [syms, symx, Nat.reduceAdd, Nat.reduceMul, Int.reduceLT, Int.reduceLE, Int.reduceAdd, Int.reduceSub, Int.reduceToNat, Int.reduceNeg, reduceIte, Nat.reduceGT, Nat.reduceLT, Nat.reduceLeDiff, code94_0, code94_1, code94_2, ty94, hva]
    | ((with_reducible first | apply forkD | apply forkB | apply forkN | apply forkNP | apply forkNot) <;> intro _)
    | ((with_reducible_and_instances apply unop_not); (· rfl)))
  refine ok_indexAtomM [] v fv (fun _ => false) h _ (z.upW _ _ (by omega)) (hl.lay _ _) (by simp) (fun x hx => absurd hx (by simp)) _ (fun h' x => ?_)
  ((skip); replace z := z.overW x (by (try simp only [lsz]); omega); rw [lay_nil h'])
  rw [show idxP (fun _ : AtomD => false) [] = -1 from rfl]
  simp -implicitDefEqProofs only [syms, symx, Nat.reduceAdd, Nat.reduceMul, Int.reduceLT, Int.reduceLE, Int.reduceAdd, Int.reduceSub, Int.reduceToNat, Int.reduceNeg, reduceIte, Nat.reduceGT, Nat.reduceLT, Nat.reduceLeDiff, code94_0, code94_1, code94_2, ty94, hva, beq_self_eq_true, forkE_true, Int.reduceBEq]
  exact hk _ (z.upW _ _ (by omega))
theorem ok_minus (l m : List AtomD) (v u : Value) (h : Heap) (hl : Sl Rep.atom h v l) (hm : Sl Rep.atom h u m) (hn : l.length ≤ 900) (hn2 : m.length ≤ 900) (hlt : ∀ x ∈ l, x.light = true) (hlm : ∀ x ∈ m, x.light = true) (K : Value → Heap → Prop)
    (hk : ∀ h' w, Ext h h' → OwnA h h' 39 w ((sortA l).filter (fun x => !hasA m x)) → K w h') : Ok Try.prog tab ov 34 [v, u] h K := by
  rw [lay_nil h]
  have z := Ext.refl h
  refine Ok.into rfl tab_fn34 body34 rfl (m := 10) rfl ?_
  repeat' (first
    | simp -implicitDefEqProofs only [syms, symx, Nat.reduceAdd, Nat.reduceMul, Int.reduceLT, Int.reduceLE, Int.reduceAdd, Int.reduceSub, Int.reduceToNat, Int.reduceNeg, reduceIte, Nat.reduceGT, Nat.reduceLT, Nat.reduceLeDiff, code34_0, ty34]
    | ((with_reducible first | apply forkD | apply forkB | apply forkN | apply forkNP | apply forkNot) <;> intro _)
    | ((with_reducible_and_instances apply unop_not); (· rfl)))
  refine ok_made m u _ (hm.lay _ _) hn2 hlm _ (fun h' w x ho => ?_)
  ((skip); replace z := z.overW x (by (try simp only [lsz]); omega); rw [lay_nil h'])
  have hva : ∀ (h : Heap) (K : Value → Heap → Prop), valE (some w) h K = K w h := fun _ _ => rfl
  simp -implicitDefEqProofs only [syms, symx, Nat.reduceAdd, Nat.reduceMul, Int.reduceLT, Int.reduceLE, Int.reduceAdd, Int.reduceSub, Int.reduceToNat, Int.reduceNeg, reduceIte, Nat.reduceGT, Nat.reduceLT, Nat.reduceLeDiff, code34_0, ty34, hva]
  refine store_laid1 sz23 (sl_cells ho.sl) ho.sl.one ?_
  repeat' (first
    | simp -implicitDefEqProofs only [syms, symx, Nat.reduceAdd, Nat.reduceMul, Int.reduceLT, Int.reduceLE, Int.reduceAdd, Int.reduceSub, Int.reduceToNat, Int.reduceNeg, reduceIte, Nat.reduceGT, Nat.reduceLT, Nat.reduceLeDiff, code34_0, ty34, hva]
    | ((with_reducible first | apply forkD | apply forkB | apply forkN | apply forkNP | apply forkNot) <;> intro _)
    | ((with_reducible_and_instances apply unop_not); (· rfl)))
  have zb : Ext h (h'.lay [Blk.row [w] 23 false] (min h'.low (h'.size + 0))) := z.upW _ _ (by have := z.size; omega)
  have q0 : Holds (h'.lay [Blk.row [w] 23 false] (min h'.low (h'.size + 0))) (h'.size + 0) (.row [w] 23 false) := ⟨by rw [lay_size]; simp, by rw [lay_get]; rfl⟩
  have hos : Sl Rep.atom (h'.lay [Blk.row [w] 23 false] (min h'.low (h'.size + 0))) w (sortA m) := ho.sl.lay _ _
  generalize hH : h'.lay [Blk.row [w] 23 false] (min h'.low (h'.size + 0)) = H1 at zb q0 hos ⊢
  refine ok_made l v _ (hl.mono zb.inc) hn hlt _ (fun h2' w2 x ho2 => ?_)
  have hva2 : ∀ (h : Heap) (K : Value → Heap → Prop), valE (some w2) h K = K w2 h := fun _ _ => rfl
  rw [lay_nil h2']
  repeat' (first
    | simp -implicitDefEqProofs only [syms, symx, Nat.reduceAdd, Nat.reduceMul, Int.reduceLT, Int.reduceLE, Int.reduceAdd, Int.reduceSub, Int.reduceToNat, Int.reduceNeg, reduceIte, Nat.reduceGT, Nat.reduceLT, Nat.reduceLeDiff, code34_0, ty34, hva2]
    | ((with_reducible first | apply forkD | apply forkB | apply forkN | apply forkNP | apply forkNot) <;> intro _)
    | ((with_reducible_and_instances apply unop_not); (· rfl)))
  have hsz := zb.size
  have hfe : (fun x => !hasA (sortA m) x) = fun x => !hasA m x := funext fun x => by rw [hasA_sort]
  rcases ho2 with ⟨e, ho2⟩ | ⟨A, t, rfl, q, hA, hle⟩
  · replace z := (zb.trans x)
    refine ok_deleteNil w2 _ _ (ho2.lay _ _).sl _ (fun h' x => ?_)
    have ho3 := ho2.over x
    ((skip); replace z := z.overW x (by (try simp only [lsz]); omega); rw [lay_nil h'])
    repeat' (first
      | simp -implicitDefEqProofs only [syms, symx, Nat.reduceAdd, Nat.reduceMul, Int.reduceLT, Int.reduceLE, Int.reduceAdd, Int.reduceSub, Int.reduceToNat, Int.reduceNeg, reduceIte, Nat.reduceGT, Nat.reduceLT, Nat.reduceLeDiff, code34_0, ty34, hva2]
      | ((with_reducible first | apply forkD | apply forkB | apply forkN | apply forkNP | apply forkNot) <;> intro _)
      | ((with_reducible_and_instances apply unop_not); (· rfl)))
    rw [e] at hk
    exact hk _ _ (z.upW _ _ (by omega)) (.inl ⟨rfl, ho3.lay _ _⟩)
  · have hll := sortA_length l
    have key := fun K hk => ok_deleteFunc (sortA l) t (.func (.func 95) ⟨[]⟩ ⟨[.pointer (some ⟨h'.size + 0, 0, none⟩)]⟩) (fun x => hasA (sortA m) x) A _ H1 (h2'.lay [] h2'.low) (x.upW _ _ (by omega)) hA (q.on _ _) rfl hle (by omega) (fun y hy hc K' xe hk' => by
      rw [callE_clos]
      exact ok_minus1 (sortA m) w y _ hc (hos.mono xe.inc) (sortA_of m).asc (by have := sortA_length m; omega) (sortA_light hlm) (sortA_light hlt y hy) (q0.ext xe) K' hk') K hk
    rw [hfe] at key
    refine key _ (fun h' w3 x ho => ?_)
    replace z := zb.trans x
    replace ho := ho.down hsz
    have hva3 : ∀ (h : Heap) (K : Value → Heap → Prop), valE (some w3) h K = K w3 h := fun _ _ => rfl
    rw [lay_nil h']
    repeat' (first
      | simp -implicitDefEqProofs only [syms, symx, Nat.reduceAdd, Nat.reduceMul, Int.reduceLT, Int.reduceLE, Int.reduceAdd, Int.reduceSub, Int.reduceToNat, Int.reduceNeg, reduceIte, Nat.reduceGT, Nat.reduceLT, Nat.reduceLeDiff, code34_0, ty34, hva3]
      | ((with_reducible first | apply forkD | apply forkB | apply forkN | apply forkNP | apply forkNot) <;> intro _)
      | ((with_reducible_and_instances apply unop_not); (· rfl)))
    exact hk _ _ (z.upW _ _ (by omega)) (ho.lay _ _)
theorem ok_merge (ls : List (List AtomD)) (v : Value) (h : Heap) (hl : Sl Rep.atoms h v ls) (hn : ls.length ≤ 100) (hn2 : ls.flatten.length ≤ 900) (hlt : ∀ x ∈ ls.flatten, x.light = true) (K : Value → Heap → Prop)
    (hk : ∀ h' w, Ext h h' → OwnA h h' 39 w (sortA ls.flatten) → K w h') : Ok Try.prog tab ov 30 [v] h K := by
  rw [lay_nil h]
  have z := Ext.refl h
  refine Ok.into rfl tab_fn30 body30 rfl (m := 17) rfl ?_
  simp -implicitDefEqProofs only [syms, symx, Nat.reduceAdd, Nat.reduceMul, Int.reduceLT, Int.reduceLE, Int.reduceAdd, Int.reduceSub, Int.reduceToNat, Int.reduceNeg, reduceIte, Nat.reduceGT, Nat.reduceLT, Nat.reduceLeDiff, code30_0, code30_1, ty30]
  repeat' ((first
    | ((with_reducible first | apply forkD | apply forkB | apply forkN | apply forkNP | apply forkNot) <;> intro _)
    | with_reducible_and_instances refine ln_rule hl ds81 ?_
    | ((with_reducible_and_instances apply unop_not); (· rfl))) <;> simp -implicitDefEqProofs only [syms, symx, Nat.reduceAdd, Nat.reduceMul, Int.reduceLT, Int.reduceLE, Int.reduceAdd, Int.reduceSub, Int.reduceToNat, Int.reduceNeg, reduceIte, Nat.reduceGT, Nat.reduceLT, Nat.reduceLeDiff, code30_0, code30_1, ty30])
  obtain ⟨I1, hI1⟩ : ∃ I : Nat → Env → Heap → Prop, I = (fun n e h' => ∃ (i : Nat) (w : Value) (A : Nat) (h1 : Heap), h' = h1.lay [] h1.low ∧ Ext h h1 ∧ (n = ls.length - i ∧ i ≤ ls.length ∧ Ow Rep.atom h h1 39 A w (ls.take i).flatten) ∧ ∃ J : Nat → Value, e = (J 0 :: J 1 :: J 2 :: w :: J 4 :: J 5 :: v :: .int .i64 ls.length :: .int .i64 i :: J 9 :: J 10 :: J 11 :: J 12 :: J 13 :: J 14 :: J 15 :: J 16 :: J 17 :: [])) := ⟨_, rfl⟩
  refine W_loopN I1 _ (by rw [hI1]; exact ⟨0, .slice none 0 0, h.size, _, rfl, z, ⟨rfl, by omega, Ow.nil (Nat.le_refl _)⟩, junk (by kernel_rfl)⟩) ?_
  intro n e h' hin
  rw [hI1] at hin
  obtain ⟨i, w, A, h1', rfl, z, hinv, J, rfl⟩ := hin
  obtain ⟨rfl, hi, ho⟩ := hinv
  have hw : IntKind.i64.wrap ((i : Int) + 1) = ((i + 1 : Nat) : Int) := by rw [wrap_i64 (by omega) (by omega)]; omega
  have hz := z.size
  have hva : ∀ (h : Heap) (K : Value → Heap → Prop), valE (some w) h K = K w h := fun _ _ => rfl
  simp -implicitDefEqProofs only [syms, symx, Nat.reduceAdd, Nat.reduceMul, Int.reduceLT, Int.reduceLE, Int.reduceAdd, Int.reduceSub, Int.reduceToNat, Int.reduceNeg, reduceIte, Nat.reduceGT, Nat.reduceLT, Nat.reduceLeDiff, code30_0, code30_1, ty30, hva]
  refine forkD (fun hlt1 => ?_) (fun hlt1 => ?_)
  rotate_left
  · rw [List.take_of_length_le (by omega)] at ho
    repeat' (first
      | simp -implicitDefEqProofs only [syms, symx, Nat.reduceAdd, Nat.reduceMul, Int.reduceLT, Int.reduceLE, Int.reduceAdd, Int.reduceSub, Int.reduceToNat, Int.reduceNeg, reduceIte, Nat.reduceGT, Nat.reduceLT, Nat.reduceLeDiff, code30_0, code30_1, ty30, hva]
      | ((with_reducible first | apply forkD | apply forkB | apply forkN | apply forkNP | apply forkNot) <;> intro _)
      | with_reducible_and_instances refine ln_rule hl ds81 ?_
      | ((with_reducible_and_instances apply unop_not); (· rfl)))
    refine ok_sorted ls.flatten w _ ((ho.sl (by decide)).lay _ _) hn2 hlt _ (fun h' w x ho => ?_)
    replace ho := ho.down (h0 := h) (by rw [lay_size]; omega)
    ((skip); replace z := z.overW x (by (try simp only [lsz]); omega); rw [lay_nil h'])
    have hva : ∀ (h : Heap) (K : Value → Heap → Prop), valE (some w) h K = K w h := fun _ _ => rfl
    repeat' (first
      | simp -implicitDefEqProofs only [syms, symx, Nat.reduceAdd, Nat.reduceMul, Int.reduceLT, Int.reduceLE, Int.reduceAdd, Int.reduceSub, Int.reduceToNat, Int.reduceNeg, reduceIte, Nat.reduceGT, Nat.reduceLT, Nat.reduceLeDiff, code30_0, code30_1, ty30, hva]
      | ((with_reducible first | apply forkD | apply forkB | apply forkN | apply forkNP | apply forkNot) <;> intro _)
      | with_reducible_and_instances refine ln_rule hl ds81 ?_
      | ((with_reducible_and_instances apply unop_not); (· rfl)))
    exact hk _ _ (z.upW _ _ (by omega)) (ho.lay _ _)
  obtain ⟨r, hr, hr'⟩ := amElem (l := ls) (i := i) (by omega)
  simp -implicitDefEqProofs only [syms, symx, Nat.reduceAdd, Nat.reduceMul, Int.reduceLT, Int.reduceLE, Int.reduceAdd, Int.reduceSub, Int.reduceToNat, Int.reduceNeg, reduceIte, Nat.reduceGT, Nat.reduceLT, Nat.reduceLeDiff, code30_0, code30_1, ty30, hva]
  repeat' ((first
    | ((with_reducible first | apply forkD | apply forkB | apply forkN | apply forkNP | apply forkNot) <;> intro _)
    | with_reducible_and_instances refine ixl_at (hl.mono z.inc) ds81 sz23 (by omega) hr (fun p b hsb hp => ?_)
    | with_reducible_and_instances refine ld_one hp ag23 ?_
    | ((with_reducible_and_instances apply unop_not); (· rfl))) <;> simp -implicitDefEqProofs only [syms, symx, Nat.reduceAdd, Nat.reduceMul, Int.reduceLT, Int.reduceLE, Int.reduceAdd, Int.reduceSub, Int.reduceToNat, Int.reduceNeg, reduceIte, Nat.reduceGT, Nat.reduceLT, Nat.reduceLeDiff, code30_0, code30_1, ty30, hva])
  have hvb : ∀ (h : Heap) (K : Value → Heap → Prop), valE (some b) h K = K b h := fun _ _ => rfl
  simp -implicitDefEqProofs only [syms, symx, Nat.reduceAdd, Nat.reduceMul, Int.reduceLT, Int.reduceLE, Int.reduceAdd, Int.reduceSub, Int.reduceToNat, Int.reduceNeg, reduceIte, Nat.reduceGT, Nat.reduceLT, Nat.reduceLeDiff, code30_0, code30_1, ty30, hva, hvb, w_append, sty23]
  have hfl : (ls.take (i + 1)).flatten = (ls.take i).flatten ++ r := by rw [List.take_add_one, hr', List.flatten_append]; simp
  have hle : (ls.take i).flatten.length + r.length ≤ 900 := by
    have h1 : ls.flatten.length = (ls.take (i + 1)).flatten.length + (ls.drop (i + 1)).flatten.length := by rw [← List.length_append, ← List.flatten_append, List.take_append_drop]
    rw [hfl, List.length_append] at h1
    omega
  obtain ⟨news, hs, hsr⟩ := src_sl (A := A) (r := Rep.atom) (by decide) (hsb.lay [] h1'.low) (fun cs y hr => hr)
  have hfr := ho.fresh
  refine ap_rule (r := Rep.atom) ds23 tab_info39 rfl (by decide) hz ho hs hsr (by omega) (by omega) (fun w' h2 A' o2 c2 hA2 => ?_)
  replace z := (z.upW _ _ (by omega)).step c2 (by omega)
  rw [← hfl] at o2
  rw [lay_nil h2]
  have hva2 : ∀ (h : Heap) (K : Value → Heap → Prop), valE (some w') h K = K w' h := fun _ _ => rfl
  repeat' (first
    | simp -implicitDefEqProofs only [syms, symx, Nat.reduceAdd, Nat.reduceMul, Int.reduceLT, Int.reduceLE, Int.reduceAdd, Int.reduceSub, Int.reduceToNat, Int.reduceNeg, reduceIte, Nat.reduceGT, Nat.reduceLT, Nat.reduceLeDiff, code30_0, code30_1, ty30, hva2]
    | ((with_reducible first | apply forkD | apply forkB | apply forkN | apply forkNP | apply forkNot) <;> intro _)
    | with_reducible_and_instances refine ixl_at (hl.mono z.inc) ds81 sz23 (by omega) hr (fun p b hsb hp => ?_)
    | with_reducible_and_instances refine ld_one hp ag23 ?_
    | ((with_reducible_and_instances apply unop_not); (· rfl)))
  rw [hw]
  (rw [hI1]; with_reducible refine loopN_normal (m := _) ?_ ⟨i + 1, w', A', _, rfl, z, ⟨rfl, by omega, o2⟩, junk (by kernel_rfl)⟩; omega)
end Go.Proofs.Ytompindebndddaa
