/- The code of some functions, node by node, for simp. Written by a program (mkcode.py). No condition. -/
import Derived.Test.YtompindebndddaaG19
import Derived.Test.YtompindebndddaaG14
import Derived.KernelRfl
import Derived.Test.YtompindebndddaaZE8
import Derived.Test.YtompindebndddaaG35
namespace Go.Proofs.Ytompindebndddaa
open Go.Am
set_option linter.unusedVariables false
set_option maxRecDepth 100000


noncomputable def K44_0 := Try.f44.body.getD .skip
noncomputable def K44_1 := lft K44_0
noncomputable def A44_1 := rops K44_1
noncomputable def K44_2 := rgt K44_0
noncomputable def K44_3 := lft K44_2
noncomputable def A44_3 := rops K44_3
noncomputable def K44_4 := rgt K44_2
noncomputable def K44_5 := lft K44_4
noncomputable def A44_5 := rops K44_5
noncomputable def K44_6 := rgt K44_4
noncomputable def K44_7 := lft K44_6
noncomputable def K44_8 := lft K44_7
noncomputable def A44_8 := rops K44_8
noncomputable def K44_9 := rgt K44_7
noncomputable def K44_10 := lft K44_9
noncomputable def K44_11 := lft K44_10
noncomputable def A44_11 := rops K44_11
noncomputable def K44_12 := rgt K44_10
noncomputable def K44_13 := rgt K44_9
noncomputable def K44_14 := rgt K44_6
noncomputable def K44_15 := lft K44_14
noncomputable def A44_15 := rops K44_15
noncomputable def K44_16 := rgt K44_14
theorem body44 : Try.f44.body = some K44_0 := by kernel_rfl
noncomputable def xcode44_0 := PLift.up (nd (seqK K44_0 K44_1 K44_2) <| nd (regK K44_1 A44_1) <| nd (nilK A44_1 3) <| nd (opS A44_1 0 1) <| nd (opS A44_1 1 2) <| nd (opS A44_1 2 3) <| nd (seqK K44_2 K44_3 K44_4) <| nd (regK K44_3 A44_3) <| nd (nilK A44_3 3) <| nd (opS A44_3 0 1) <| nd (opS A44_3 1 2) <| nd (opS A44_3 2 3) <| nd (seqK K44_4 K44_5 K44_6) <| nd (regK K44_5 A44_5) <| nd (nilK A44_5 8) <| nd (opS A44_5 0 1) <| nd (opS A44_5 1 2) <| nd (opS A44_5 2 3) <| nd (opS A44_5 3 4) <| nd (opS A44_5 4 5) <| nd (opS A44_5 5 6) <| nd (opS A44_5 6 7) <| nd (opS A44_5 7 8) <| nd (seqK K44_6 K44_7 K44_14) <| nd (seqK K44_7 K44_8 K44_9) <| nd (regK K44_8 A44_8) <| nd (nilK A44_8 1) <| nd (opS A44_8 0 1) <| nd (condK K44_9 K44_10 K44_13) <| nd (seqK K44_10 K44_11 K44_12) <| nd (regK K44_11 A44_11) <| nd (nilK A44_11 3) <| nd (opS A44_11 0 1) <| nd (opS A44_11 1 2) <| nd (opS A44_11 2 3) <| nd (retK K44_12) <| nd (skipK K44_13) <| nd (seqK K44_14 K44_15 K44_16) <| nd (regK K44_15 A44_15) <| nilK A44_15 7)
theorem code44_0 : type_of% xcode44_0.down := xcode44_0.down
noncomputable def xcode44_1 := PLift.up (nd (opS A44_15 0 1) <| nd (opS A44_15 1 2) <| nd (opS A44_15 2 3) <| nd (opS A44_15 3 4) <| nd (opS A44_15 4 5) <| nd (opS A44_15 5 6) <| nd (opS A44_15 6 7) <| retK K44_16)
theorem code44_1 : type_of% xcode44_1.down := xcode44_1.down
noncomputable def xty44 := PLift.up (nd @bs23 <| nd @ld39 <| @fi44)
theorem ty44 : type_of% xty44.down := xty44.down

noncomputable def K45_0 := Try.f45.body.getD .skip
noncomputable def K45_1 := lft K45_0
noncomputable def A45_1 := rops K45_1
noncomputable def K45_2 := rgt K45_0
noncomputable def K45_3 := lft K45_2
noncomputable def A45_3 := rops K45_3
noncomputable def K45_4 := rgt K45_2
noncomputable def K45_5 := lft K45_4
noncomputable def A45_5 := rops K45_5
noncomputable def K45_6 := rgt K45_4
noncomputable def K45_7 := lft K45_6
noncomputable def K45_8 := lft K45_7
noncomputable def A45_8 := rops K45_8
noncomputable def K45_9 := rgt K45_7
noncomputable def K45_10 := lft K45_9
noncomputable def K45_11 := lft K45_10
noncomputable def A45_11 := rops K45_11
noncomputable def K45_12 := rgt K45_10
noncomputable def K45_13 := rgt K45_9
noncomputable def K45_14 := rgt K45_6
noncomputable def K45_15 := lft K45_14
noncomputable def A45_15 := rops K45_15
noncomputable def K45_16 := rgt K45_14
theorem body45 : Try.f45.body = some K45_0 := by kernel_rfl
noncomputable def xcode45_0 := PLift.up (nd (seqK K45_0 K45_1 K45_2) <| nd (regK K45_1 A45_1) <| nd (nilK A45_1 3) <| nd (opS A45_1 0 1) <| nd (opS A45_1 1 2) <| nd (opS A45_1 2 3) <| nd (seqK K45_2 K45_3 K45_4) <| nd (regK K45_3 A45_3) <| nd (nilK A45_3 3) <| nd (opS A45_3 0 1) <| nd (opS A45_3 1 2) <| nd (opS A45_3 2 3) <| nd (seqK K45_4 K45_5 K45_6) <| nd (regK K45_5 A45_5) <| nd (nilK A45_5 8) <| nd (opS A45_5 0 1) <| nd (opS A45_5 1 2) <| nd (opS A45_5 2 3) <| nd (opS A45_5 3 4) <| nd (opS A45_5 4 5) <| nd (opS A45_5 5 6) <| nd (opS A45_5 6 7) <| nd (opS A45_5 7 8) <| nd (seqK K45_6 K45_7 K45_14) <| nd (seqK K45_7 K45_8 K45_9) <| nd (regK K45_8 A45_8) <| nd (nilK A45_8 2) <| nd (opS A45_8 0 1) <| nd (opS A45_8 1 2) <| nd (condK K45_9 K45_10 K45_13) <| nd (seqK K45_10 K45_11 K45_12) <| nd (regK K45_11 A45_11) <| nd (nilK A45_11 3) <| nd (opS A45_11 0 1) <| nd (opS A45_11 1 2) <| nd (opS A45_11 2 3) <| nd (retK K45_12) <| nd (skipK K45_13) <| nd (seqK K45_14 K45_15 K45_16) <| regK K45_15 A45_15)
theorem code45_0 : type_of% xcode45_0.down := xcode45_0.down
noncomputable def xcode45_1 := PLift.up (nd (nilK A45_15 7) <| nd (opS A45_15 0 1) <| nd (opS A45_15 1 2) <| nd (opS A45_15 2 3) <| nd (opS A45_15 3 4) <| nd (opS A45_15 4 5) <| nd (opS A45_15 5 6) <| nd (opS A45_15 6 7) <| retK K45_16)
theorem code45_1 : type_of% xcode45_1.down := xcode45_1.down
noncomputable def xty45 := PLift.up (nd @ld39 <| @fi45)
theorem ty45 : type_of% xty45.down := xty45.down

noncomputable def K114_0 := Try.f114.body.getD .skip
noncomputable def K114_1 := lft K114_0
noncomputable def A114_1 := rops K114_1
noncomputable def K114_2 := rgt K114_0
noncomputable def K114_3 := lft K114_2
noncomputable def A114_3 := rops K114_3
noncomputable def K114_4 := rgt K114_2
noncomputable def K114_5 := lft K114_4
noncomputable def K114_6 := lft K114_5
noncomputable def A114_6 := rops K114_6
noncomputable def K114_7 := rgt K114_5
noncomputable def K114_8 := lft K114_7
noncomputable def K114_9 := lft K114_8
noncomputable def A114_9 := rops K114_9
noncomputable def K114_10 := rgt K114_8
noncomputable def K114_11 := rgt K114_7
noncomputable def K114_12 := rgt K114_4
noncomputable def K114_13 := lft K114_12
noncomputable def A114_13 := rops K114_13
noncomputable def K114_14 := rgt K114_12
noncomputable def K114_15 := lft K114_14
noncomputable def A114_15 := rops K114_15
noncomputable def K114_16 := rgt K114_14
noncomputable def K114_17 := lft K114_16
noncomputable def A114_17 := rops K114_17
noncomputable def K114_18 := rgt K114_16
noncomputable def K114_19 := lft K114_18
noncomputable def A114_19 := rops K114_19
noncomputable def K114_20 := rgt K114_18
theorem body114 : Try.f114.body = some K114_0 := by kernel_rfl
theorem D114_15 : DrawK K114_15 A114_15 := drawK rfl (by kernel_rfl)
noncomputable def xcode114_0 := PLift.up (nd (seqK K114_0 K114_1 K114_2) <| nd (regK K114_1 A114_1) <| nd (nilK A114_1 1) <| nd (opS A114_1 0 1) <| nd (seqK K114_2 K114_3 K114_4) <| nd (regK K114_3 A114_3) <| nd (nilK A114_3 6) <| nd (opS A114_3 0 1) <| nd (opS A114_3 1 2) <| nd (opS A114_3 2 3) <| nd (opS A114_3 3 4) <| nd (opS A114_3 4 5) <| nd (opS A114_3 5 6) <| nd (seqK K114_4 K114_5 K114_12) <| nd (seqK K114_5 K114_6 K114_7) <| nd (regK K114_6 A114_6) <| nd (nilK A114_6 3) <| nd (opS A114_6 0 1) <| nd (opS A114_6 1 2) <| nd (opS A114_6 2 3) <| nd (condK K114_7 K114_8 K114_11) <| nd (seqK K114_8 K114_9 K114_10) <| nd (regK K114_9 A114_9) <| nd (nilK A114_9 2) <| nd (opS A114_9 0 1) <| nd (opS A114_9 1 2) <| nd (retK K114_10) <| nd (skipK K114_11) <| nd (seqK K114_12 K114_13 K114_14) <| nd (regK K114_13 A114_13) <| nd (nilK A114_13 3) <| nd (opS A114_13 0 1) <| nd (opS A114_13 1 2) <| nd (opS A114_13 2 3) <| nd (seqK K114_14 K114_15 K114_16) <| nd (nilX A114_15 8) <| nd (opSX A114_15 0 1 true) <| nd (opSX A114_15 1 2 true) <| nd (opSX A114_15 2 3 true) <| opSX A114_15 3 4 true)
theorem code114_0 : type_of% xcode114_0.down := xcode114_0.down
noncomputable def xcode114_1 := PLift.up (nd (opSX A114_15 4 5 true) <| nd (opSX A114_15 5 6 true) <| nd (opSX A114_15 6 7 false) <| nd (opSX A114_15 7 8 true) <| nd (seqK K114_16 K114_17 K114_18) <| nd (regK K114_17 A114_17) <| nd (nilK A114_17 6) <| nd (opS A114_17 0 1) <| nd (opS A114_17 1 2) <| nd (opS A114_17 2 3) <| nd (opS A114_17 3 4) <| nd (opS A114_17 4 5) <| nd (opN A114_17 5 6) <| nd (seqK K114_18 K114_19 K114_20) <| nd (regK K114_19 A114_19) <| nd (nilK A114_19 2) <| nd (opS A114_19 0 1) <| nd (opS A114_19 1 2) <| retK K114_20)
theorem code114_1 : type_of% xcode114_1.down := xcode114_1.down
noncomputable def xty114 := PLift.up (nd @ln23 <| @fi114)
theorem ty114 : type_of% xty114.down := xty114.down
end Go.Proofs.Ytompindebndddaa
namespace Go.Proofs.Ytompindebndddaa
open Go.Am
set_option linter.unusedSimpArgs false
set_option linter.unusedVariables false
set_option maxRecDepth 100000
set_option maxHeartbeats 0
theorem ok_ins (s : List AtomD) (a : AtomD) (i : Nat) (w : Value) (h h1 : Heap) (z : Ext h h1) (ho : OwnA h h1 39 w s) (hn : s.length ≤ 10000) (hin : i ≤ s.length) (lw : Nat) (hlw : min h1.low h1.size ≤ lw) (K : Value → Heap → Prop)
    (hk : ∀ h' w', Ext h h' → OwnA h h' 39 w' (s.take i ++ a :: s.drop i) → K w' h') : Ok Try.prog tab ov 113 [w, .int .i64 i, .slice (some ⟨h1.size + 0, 0, none⟩) 1 1] (h1.lay [.row a.cells 39 false] lw) K := by
  obtain ⟨w', H', e, ho', A, hA, c⟩ := ins_own (i := i) (a := a) (lw := lw) ins_desc ins_info (by decide) (by decide) z.size ho hn hin
  exact Ok.over rfl e (hk _ _ (z.stepW c hA hlw) ho')
theorem ok_add (l : List AtomD) (a : AtomD) (v : Value) (h : Heap) (hl : Sl Rep.atom h v l) (hn : l.length ≤ 900) (hlt : ∀ x ∈ l, x.light = true) (ha : a.light = true) (K : Value → Heap → Prop)
    (hk : ∀ h' w, Ext h h' → OwnA h h' 39 w (putA a (sortA l)) → K (.tuple #[w, .bool (!hasA l a)]) h') : Ok Try.prog tab ov 44 [v, a.val] h K := by
  rw [lay_nil h]
  have z := Ext.refl h
  refine Ok.into rfl tab_fn44 body44 rfl (m := 22) rfl ?_
  simp -implicitDefEqProofs only [syms, symx, Nat.reduceAdd, Nat.reduceMul, Int.reduceLT, Int.reduceLE, Int.reduceAdd, Int.reduceSub, Int.reduceToNat, Int.reduceNeg, reduceIte, Nat.reduceGT, Nat.reduceLT, Nat.reduceLeDiff, code44_0, code44_1, ty44, cells_atom]
  refine ok_made l v _ (hl.lay _ _) hn hlt _ (fun h' w x ho => ?_)
  replace ho := ho.down (h0 := h) (by rw [lay_size]; omega)
  have q0 := Holds.top (i := 0) x rfl
  ((skip); replace z := z.overW x (by (try simp only [lsz]); omega); rw [lay_nil h'])
  have hva : ∀ (h : Heap) (K : Value → Heap → Prop), valE (some w) h K = K w h := fun _ _ => rfl
  repeat' (first
    | simp -implicitDefEqProofs only [syms, symx, Nat.reduceAdd, Nat.reduceMul, Int.reduceLT, Int.reduceLE, Int.reduceAdd, Int.reduceSub, Int.reduceToNat, Int.reduceNeg, reduceIte, Nat.reduceGT, Nat.reduceLT, Nat.reduceLeDiff, code44_0, code44_1, ty44, hva, q0.lay, cells_atom, ↓cut_atom, agg_atom, valE_atom]
    | ((with_reducible first | apply forkD | apply forkB | apply forkN | apply forkNP | apply forkNot) <;> intro _)
    | ((with_reducible_and_instances apply unop_not); (· rfl)))
  have hll := sortA_length l
  refine ok_place (sortA l) a w _ (ho.sl.lay _ _) (sortA_of l).asc (by omega) (sortA_light hlt) ha _ (fun h' i x hp => ?_)
  replace ho := (ho.lay _ _).mono x.inc
  ((skip); replace z := z.overW x (by (try simp only [lsz]); omega); (try replace q0 := q0.over x); rw [lay_nil h'])
  cases hb : hasA (sortA l) a
  · have hpp := put_place hp hb
    rw [hasA_sort] at hb
    repeat' (first
      | simp -implicitDefEqProofs only [syms, symx, Nat.reduceAdd, Nat.reduceMul, Int.reduceLT, Int.reduceLE, Int.reduceAdd, Int.reduceSub, Int.reduceToNat, Int.reduceNeg, reduceIte, Nat.reduceGT, Nat.reduceLT, Nat.reduceLeDiff, code44_0, code44_1, ty44, hva, q0.lay, cells_atom, ↓cut_atom, agg_atom, valE_atom]
      | ((with_reducible first | apply forkD | apply forkB | apply forkN | apply forkNP | apply forkNot) <;> intro _)
      | ((with_reducible_and_instances apply unop_not); (· rfl)))
    repeat' (first
      | simp -implicitDefEqProofs only [syms, symx, Nat.reduceAdd, Nat.reduceMul, Int.reduceLT, Int.reduceLE, Int.reduceAdd, Int.reduceSub, Int.reduceToNat, Int.reduceNeg, reduceIte, Nat.reduceGT, Nat.reduceLT, Nat.reduceLeDiff, code44_0, code44_1, ty44, fill_atom]
      | ((with_reducible first | apply forkD | apply forkB | apply forkN | apply forkNP | apply forkNot) <;> intro _)
      | ((with_reducible_and_instances apply unop_not); (· rfl)))
    rw [hb] at hk
    have hz := z.size
    refine ok_ins (sortA l) a i w h h' z ho (by omega) hp.le _ (by omega) _ (fun h' w' x ho => ?_)
    replace z := x
    rw [hpp] at ho
    have hva : ∀ (h : Heap) (K : Value → Heap → Prop), valE (some w') h K = K w' h := fun _ _ => rfl
    rw [lay_nil h']
    repeat' (first
      | simp -implicitDefEqProofs only [syms, symx, Nat.reduceAdd, Nat.reduceMul, Int.reduceLT, Int.reduceLE, Int.reduceAdd, Int.reduceSub, Int.reduceToNat, Int.reduceNeg, reduceIte, Nat.reduceGT, Nat.reduceLT, Nat.reduceLeDiff, code44_0, code44_1, ty44, hva]
      | ((with_reducible first | apply forkD | apply forkB | apply forkN | apply forkNP | apply forkNot) <;> intro _)
      | ((with_reducible_and_instances apply unop_not); (· rfl)))
    exact hk _ _ (z.upW _ _ (by omega)) (ho.lay _ _)
  · have hpp := put_has (sortA_of l).asc hb
    rw [hasA_sort] at hb
    rw [hb, hpp] at hk
    repeat' (first
      | simp -implicitDefEqProofs only [syms, symx, Nat.reduceAdd, Nat.reduceMul, Int.reduceLT, Int.reduceLE, Int.reduceAdd, Int.reduceSub, Int.reduceToNat, Int.reduceNeg, reduceIte, Nat.reduceGT, Nat.reduceLT, Nat.reduceLeDiff, code44_0, code44_1, ty44, hva]
      | ((with_reducible first | apply forkD | apply forkB | apply forkN | apply forkNP | apply forkNot) <;> intro _)
      | ((with_reducible_and_instances apply unop_not); (· rfl)))
    exact hk _ _ (z.upW _ _ (by omega)) (ho.lay _ _)
theorem slice3 {T : Tab} {t u : TypeId} {A n q i j : Nat} {k1 k2 k3 : IntKind} (hd : T.desc t = some (.slice u)) (hs : sizeA T u = some 11) (hij : i ≤ j) (hj : j ≤ n) (hn : n ≤ q) (hq : q ≤ 100000) :
    sliceA T t (.slice (some ⟨A, 0, none⟩) n (G * 11 + q)) (some (.int k1 i)) (some (.int k2 j)) (some (.int k3 n)) = some (.slice (some ⟨A, if n = i then 0 else 0 + i * 11, none⟩) (j - i) (n - i)) := by
  have hG := G_big
  obtain ⟨d1, d2, d3⟩ := openCap2 (k := 11) (q := q) (by decide) (by omega)
  unfold sliceA
  simp only [hd, hs, Option.bind_some]
  rw [if_neg (by omega), d2, if_pos rfl, d3]
  unfold boundsA
  simp only [bound_nat hn, bound_nat hj, bound_nat hij, Option.bind_some, Option.map_some]
theorem open_mid {T : Tab} {t u : TypeId} {A n q i j : Nat} {k1 k2 : IntKind} (hd : T.desc t = some (.slice u)) (hs : sizeA T u = some 11) (hij : i ≤ j) (hj : j ≤ q) (hq : q ≤ 100000) :
    sliceA T t (.slice (some ⟨A, 0, none⟩) n (G * 11 + q)) (some (.int k1 i)) (some (.int k2 j)) none = some (.slice (some ⟨A, 0 + i * 11, none⟩) (j - i) (G * 11 + (q - i))) := by
  have hG := G_big
  obtain ⟨d1, d2, d3⟩ := openCap2 (k := 11) (q := q) (by decide) (by omega)
  unfold sliceA
  simp only [hd, hs, Option.bind_some]
  rw [if_neg (by omega), d2, if_pos rfl, d3]
  unfold boundsA
  simp only [bound_nat hj, bound_nat hij, Option.bind_some, Option.map_some]
theorem ok_delete (s : List AtomD) (i : Nat) (w : Value) (h hs : Heap) (z : Ext h hs) (ho : OwnA h hs 39 w s) (hn : s.length ≤ 10000) (hin : i < s.length) (K : Value → Heap → Prop)
    (hk : ∀ h' w', Ext h h' → OwnA h h' 39 w' (s.take i ++ s.drop (i + 1)) → K w' h') : Ok Try.prog tab ov 114 [w, .int .i64 i, .int .i64 ((i + 1 : Nat) : Int)] hs K := by
  rcases ho with ⟨rfl, _⟩ | ⟨A, t, rfl, q, hA, hle⟩
  · simp at hin
  have hsl : s.length ≤ (s ++ t).length := by rw [List.length_append]; omega
  rw [lay_nil hs]
  refine Ok.into rfl tab_fn114 body114 rfl (m := 30) rfl ?_
  simp -implicitDefEqProofs only [syms, symx, Nat.reduceAdd, Nat.reduceMul, Int.reduceLT, Int.reduceLE, Int.reduceAdd, Int.reduceSub, Int.reduceToNat, Int.reduceNeg, reduceIte, Nat.reduceGT, Nat.reduceLT, Nat.reduceLeDiff, code114_0, code114_1, ty114, slice3 ds23 sz39 (show i ≤ i + 1 by omega) hin hsl hle]
  refine forkB (fun hh => absurd hh (by omega)) (fun _ => ?_)
  repeat' (first
    | simp -implicitDefEqProofs only [syms, symx, Nat.reduceAdd, Nat.reduceMul, Int.reduceLT, Int.reduceLE, Int.reduceAdd, Int.reduceSub, Int.reduceToNat, Int.reduceNeg, reduceIte, Nat.reduceGT, Nat.reduceLT, Nat.reduceLeDiff, code114_0, code114_1, ty114]
    | ((with_reducible first | apply forkD | apply forkB | apply forkN | apply forkNP | apply forkNot) <;> intro _)
    | ((with_reducible_and_instances apply unop_not); (· rfl))
    | ((with_reducible refine ⟨z.grw.lay _ _, ?_⟩); (intro _ h' zz x _); (try simp only [lay_lay, List.append_nil] at x); (try replace q0 := q0.over x); (replace z := zz); (clear zz); rw [lay_nil h']))
  refine D114_15 (z.upW _ _ (by omega)) ?_
  simp -implicitDefEqProofs only [syms, symx, Nat.reduceAdd, Nat.reduceMul, Int.reduceLT, Int.reduceLE, Int.reduceAdd, Int.reduceSub, Int.reduceToNat, Int.reduceNeg, reduceIte, Nat.reduceGT, Nat.reduceLT, Nat.reduceLeDiff, code114_0, code114_1, ty114, open_to ds23 sz39 (show i ≤ s.length by omega) hsl hle, open_from ds23 sz39 (show i + 1 ≤ s.length by omega) hsl hle, w_append, sty23]
  obtain ⟨h2, e2, q2, c2⟩ := del_append (i := i) (C2 := G * 11 + ((s ++ t).length - (i + 1))) ds23 ins_info (by decide) (q.on _ _) hin hn hle
  rw [e2]
  simp -implicitDefEqProofs only [syms, symx, Nat.reduceAdd, Nat.reduceMul, Int.reduceLT, Int.reduceLE, Int.reduceAdd, Int.reduceSub, Int.reduceToNat, Int.reduceNeg, reduceIte, Nat.reduceGT, Nat.reduceLT, Nat.reduceLeDiff, code114_0, code114_1, ty114]
  have hzz := z.size
  refine KOpsX_chg (A := A) (by kernel_rfl) (by rw [lay_size]; omega) (by omega) (by simpa only [lay_lay, lay_size, List.append_nil, List.length_cons, List.length_nil, Nat.zero_add, Nat.add_zero] using c2) ?_
  replace z := z.stepW c2 hA (by omega)
  rw [lay_nil h2]
  clear q
  repeat' (first
    | simp -implicitDefEqProofs only [syms, symx, Nat.reduceAdd, Nat.reduceMul, Int.reduceLT, Int.reduceLE, Int.reduceAdd, Int.reduceSub, Int.reduceToNat, Int.reduceNeg, reduceIte, Nat.reduceGT, Nat.reduceLT, Nat.reduceLeDiff, code114_0, code114_1, ty114]
    | ((with_reducible first | apply forkD | apply forkB | apply forkN | apply forkNP | apply forkNot) <;> intro _)
    | ((with_reducible_and_instances apply unop_not); (· rfl))
    | ((with_reducible refine ⟨z.grw.lay _ _, ?_⟩); (intro _ h' zz x _); (try simp only [lay_lay, List.append_nil] at x); (try replace q2 := q2.over x); (replace z := zz); (clear zz); rw [lay_nil h']))
  have hl1 : (s.take i ++ s.drop (i + 1)).length = s.length - 1 := by simp only [List.length_append, List.length_take, List.length_drop]; omega
  have hl2 : (s.take i ++ s.drop (i + 1) ++ (s.drop (s.length - 1) ++ t)).length = (s ++ t).length := by
    rw [List.length_append, hl1, List.length_append, List.length_append, List.length_drop]
    omega
  simp -implicitDefEqProofs only [syms, symx, Nat.reduceAdd, Nat.reduceMul, Int.reduceLT, Int.reduceLE, Int.reduceAdd, Int.reduceSub, Int.reduceToNat, Int.reduceNeg, reduceIte, Nat.reduceGT, Nat.reduceLT, Nat.reduceLeDiff, code114_0, code114_1, ty114, open_mid ds23 sz39 (show s.length - 1 ≤ s.length by omega) hsl hle, w_clear]
  refine clear_mid (i := s.length - 1) (n := s.length - (s.length - 1)) q2 ds23 tab_info39 (by rw [hl2]; omega) (fun h3 q3 c3 => ?_)
  replace z := z.stepW c3 hA (by omega)
  rw [lay_nil h3]
  clear q2
  repeat' (first
    | simp -implicitDefEqProofs only [syms, symx, Nat.reduceAdd, Nat.reduceMul, Int.reduceLT, Int.reduceLE, Int.reduceAdd, Int.reduceSub, Int.reduceToNat, Int.reduceNeg, reduceIte, Nat.reduceGT, Nat.reduceLT, Nat.reduceLeDiff, code114_0, code114_1, ty114]
    | ((with_reducible first | apply forkD | apply forkB | apply forkN | apply forkNP | apply forkNot) <;> intro _)
    | ((with_reducible_and_instances apply unop_not); (· rfl))
    | ((with_reducible refine ⟨z.grw.lay _ _, ?_⟩); (intro _ h' zz x _); (try simp only [lay_lay, List.append_nil] at x); (try replace q2 := q2.over x); (replace z := zz); (clear zz); rw [lay_nil h']))
  rw [List.take_left' hl1] at q3
  have hl3 : (s.take i ++ s.drop (i + 1) ++ (List.replicate (s.length - (s.length - 1)) noAtomD ++ (s.take i ++ s.drop (i + 1) ++ (s.drop (s.length - 1) ++ t)).drop (s.length - 1 + (s.length - (s.length - 1))))).length = (s ++ t).length := by
    rw [List.length_append, hl1, List.length_append, List.length_replicate, List.length_drop, hl2, List.length_append]
    omega
  exact hk _ _ (z.upW _ _ (by omega)) (own_part (q3.on _ _) hA (by rw [hl3]; exact hle) hl1.symm (by rw [hl3]))
theorem ok_remove (l : List AtomD) (a : AtomD) (v : Value) (h : Heap) (hl : Sl Rep.atom h v l) (hn : l.length ≤ 900) (hlt : ∀ x ∈ l, x.light = true) (ha : a.light = true) (K : Value → Heap → Prop)
    (hk : ∀ h' w, Ext h h' → OwnA h h' 39 w (delA a (sortA l)) → K (.tuple #[w, .bool (hasA l a)]) h') : Ok Try.prog tab ov 45 [v, a.val] h K := by
  rw [lay_nil h]
  have z := Ext.refl h
  refine Ok.into rfl tab_fn45 body45 rfl (m := 23) rfl ?_
  simp -implicitDefEqProofs only [syms, symx, Nat.reduceAdd, Nat.reduceMul, Int.reduceLT, Int.reduceLE, Int.reduceAdd, Int.reduceSub, Int.reduceToNat, Int.reduceNeg, reduceIte, Nat.reduceGT, Nat.reduceLT, Nat.reduceLeDiff, code45_0, code45_1, ty45, cells_atom]
  refine ok_made l v _ (hl.lay _ _) hn hlt _ (fun h' w x ho => ?_)
  replace ho := ho.down (h0 := h) (by rw [lay_size]; omega)
  have q0 := Holds.top (i := 0) x rfl
  ((skip); replace z := z.overW x (by (try simp only [lsz]); omega); rw [lay_nil h'])
  have hva : ∀ (h : Heap) (K : Value → Heap → Prop), valE (some w) h K = K w h := fun _ _ => rfl
  repeat' (first
    | simp -implicitDefEqProofs only [syms, symx, Nat.reduceAdd, Nat.reduceMul, Int.reduceLT, Int.reduceLE, Int.reduceAdd, Int.reduceSub, Int.reduceToNat, Int.reduceNeg, reduceIte, Nat.reduceGT, Nat.reduceLT, Nat.reduceLeDiff, code45_0, code45_1, ty45, hva, q0.lay, cells_atom, ↓cut_atom, agg_atom, valE_atom]
    | ((with_reducible first | apply forkD | apply forkB | apply forkN | apply forkNP | apply forkNot) <;> intro _)
    | ((with_reducible_and_instances apply unop_not); (· rfl)))
  have hll := sortA_length l
  refine ok_place (sortA l) a w _ (ho.sl.lay _ _) (sortA_of l).asc (by omega) (sortA_light hlt) ha _ (fun h' i x hp => ?_)
  replace ho := (ho.lay _ _).mono x.inc
  ((skip); replace z := z.overW x (by (try simp only [lsz]); omega); (try replace q0 := q0.over x); rw [lay_nil h'])
  cases hb : hasA (sortA l) a
  · have hpp := del_no hb
    rw [hasA_sort] at hb
    rw [hb, hpp] at hk
    repeat' (first
      | simp -implicitDefEqProofs only [syms, symx, Nat.reduceAdd, Nat.reduceMul, Int.reduceLT, Int.reduceLE, Int.reduceAdd, Int.reduceSub, Int.reduceToNat, Int.reduceNeg, reduceIte, Nat.reduceGT, Nat.reduceLT, Nat.reduceLeDiff, code45_0, code45_1, ty45, hva]
      | ((with_reducible first | apply forkD | apply forkB | apply forkN | apply forkNP | apply forkNot) <;> intro _)
      | ((with_reducible_and_instances apply unop_not); (· rfl)))
    exact hk _ _ (z.upW _ _ (by omega)) (ho.lay _ _)
  · obtain ⟨hil, hpp⟩ := del_place (sortA_of l).asc hp hb
    rw [hasA_sort] at hb
    have hwi : IntKind.i64.wrap ((i : Int) + 1) = ((i + 1 : Nat) : Int) := by rw [wrap_i64 (by omega) (by omega)]; omega
    repeat' (first
      | simp -implicitDefEqProofs only [syms, symx, Nat.reduceAdd, Nat.reduceMul, Int.reduceLT, Int.reduceLE, Int.reduceAdd, Int.reduceSub, Int.reduceToNat, Int.reduceNeg, reduceIte, Nat.reduceGT, Nat.reduceLT, Nat.reduceLeDiff, code45_0, code45_1, ty45, hva, hwi]
      | ((with_reducible first | apply forkD | apply forkB | apply forkN | apply forkNP | apply forkNot) <;> intro _)
      | ((with_reducible_and_instances apply unop_not); (· rfl)))
    rw [hb] at hk
    refine ok_delete (sortA l) i w h _ (z.upW _ _ (by omega)) (ho.lay _ _) (by omega) hil _ (fun h' w' x ho => ?_)
    replace z := x
    rw [hpp] at ho
    have hva : ∀ (h : Heap) (K : Value → Heap → Prop), valE (some w') h K = K w' h := fun _ _ => rfl
    rw [lay_nil h']
    repeat' (first
      | simp -implicitDefEqProofs only [syms, symx, Nat.reduceAdd, Nat.reduceMul, Int.reduceLT, Int.reduceLE, Int.reduceAdd, Int.reduceSub, Int.reduceToNat, Int.reduceNeg, reduceIte, Nat.reduceGT, Nat.reduceLT, Nat.reduceLeDiff, code45_0, code45_1, ty45, hva]
      | ((with_reducible first | apply forkD | apply forkB | apply forkN | apply forkNP | apply forkNot) <;> intro _)
      | ((with_reducible_and_instances apply unop_not); (· rfl)))
    exact hk _ _ (z.upW _ _ (by omega)) (ho.lay _ _)
end Go.Proofs.Ytompindebndddaa
