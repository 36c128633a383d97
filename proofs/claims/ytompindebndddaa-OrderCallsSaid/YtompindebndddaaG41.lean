/- Slices just laid. No condition. -/
import Derived.Test.YtompindebndddaaG31
import Derived.Test.YtompindebndddaaG36
import Derived.Test.YtompindebndddaaG38
import Derived.Test.YtompindebndddaaG39
import Derived.Test.YtompindebndddaaG40
import Derived.Test.YtompindebndddaaG12
import Derived.Test.YtompindebndddaaRows
namespace Go.Am
set_option linter.unusedVariables false
theorem sl_laid3 {h : Heap} {v u q : Value} {a b c : List AtomD} {t : TypeId} {ro : Bool} {w : Nat} (ha : Sl Rep.atom h v a) (hb : Sl Rep.atom h u b) (hc : Sl Rep.atom h q c) : Sl Rep.atoms (h.lay [.row [v, u, q] t ro] w) (.slice (some ⟨h.size + 0, 0, none⟩) 3 3) [a, b, c] := by
  refine .inr ⟨h.size + 0, 0, 3, [v, u, q], t, ro, rfl, (by show 3 ≤ maxLen; decide), .inl ⟨by decide, Nat.le_refl _⟩, by rw [lay_size]; simp, by rw [lay_get]; rfl, fun i x hx => ?_⟩
  match i, hx with
  | 0, hx => cases hx; exact ⟨[v], rfl, v, rfl, ha.lay _ _⟩
  | 1, hx => cases hx; exact ⟨[u], rfl, u, rfl, hb.lay _ _⟩
  | 2, hx => cases hx; exact ⟨[q], rfl, q, rfl, hc.lay _ _⟩
  | i + 3, hx => simp at hx
theorem cells_one {v : Value} (hv : v.cells.toList = [v]) : v.cells.size = 1 := by rw [← Array.length_toList, hv]; rfl
theorem fill_sl3 {v u w z0 z1 z2 : Value} (hv : v.cells.toList = [v]) (hu : u.cells.toList = [u]) (hw : w.cells.toList = [w]) : fillA (fun i => some (i * 1, 1)) [z0, z1, z2] [(0, v), (1, u), (2, w)] = some [v, u, w] := by
  simp [fillA, hv, hu, hw, cells_one hv, cells_one hu, cells_one hw, splice]
end Go.Am
namespace Go.Proofs.Ytompindebndddaa
open Go.Am
set_option linter.unusedSimpArgs false
set_option linter.unusedVariables false
set_option maxRecDepth 100000
set_option maxHeartbeats 0
theorem bin_boolS (b : Bool) : binA Try.prog tab .eql 4 (.bool b) (.bool b) = some (.bool true) := by cases b <;> kernel_rfl
theorem fork_var (b : Bool) (h : Heap) (K : Value → Heap → Prop) : forkE b h K = K (.bool b) h := by
  unfold forkE
  cases b
  · simp
  · simp
theorem ok_orderCalls (l m k : List AtomD) (a : AtomD) (v u w : Value) (h : Heap) (hl : Sl Rep.atom h v l) (hm : Sl Rep.atom h u m) (hn : Sl Rep.atom h w k) (K : Value → Heap → Prop)
    (hk : ∀ h', Ext h h' → K (.bool true) h') : Ok Try.prog tab ov 9 [v, u, w, a.val] h K := by
  rw [lay_nil h]
  have z := Ext.refl h
  have hva : ∀ (h : Heap) (K : Value → Heap → Prop), valE (some v) h K = K v h := fun _ _ => rfl
  have hvb : ∀ (h : Heap) (K : Value → Heap → Prop), valE (some u) h K = K u h := fun _ _ => rfl
  have hvc : ∀ (h : Heap) (K : Value → Heap → Prop), valE (some w) h K = K w h := fun _ _ => rfl
  refine Ok.into rfl tab_fn9 body9 rfl (m := 147) rfl ?_
  simp -implicitDefEqProofs only [syms, symx, Nat.reduceAdd, Nat.reduceMul, Int.reduceLT, Int.reduceLE, Int.reduceAdd, Int.reduceSub, Int.reduceToNat, Int.reduceNeg, reduceIte, Nat.reduceGT, Nat.reduceLT, Nat.reduceLeDiff, code9_0, code9_1, code9_2, code9_3, code9_4, code9_5, ty9, cells_atom, hva, hvb, hvc]
  refine Ok.over (g := trueA) rfl rfl ?_
  simp -implicitDefEqProofs only [syms, symx, Nat.reduceAdd, Nat.reduceMul, Int.reduceLT, Int.reduceLE, Int.reduceAdd, Int.reduceSub, Int.reduceToNat, Int.reduceNeg, reduceIte, Nat.reduceGT, Nat.reduceLT, Nat.reduceLeDiff, code9_0, code9_1, code9_2, code9_3, code9_4, code9_5, ty9, hva, hvb, hvc]
  repeat' ((first
    | ((with_reducible first | apply forkD | apply forkB | apply forkN | apply forkNP | apply forkNot) <;> intro _)
    | ((with_reducible_and_instances apply unop_not); (· rfl))
    | ((with_reducible refine ⟨z.grw.lay _ _, ?_⟩); (intro _ h' zz x _); (try simp only [lay_lay, List.append_nil] at x); (replace z := zz); (clear zz); rw [lay_nil h'])) <;> simp -implicitDefEqProofs only [syms, symx, Nat.reduceAdd, Nat.reduceMul, Int.reduceLT, Int.reduceLE, Int.reduceAdd, Int.reduceSub, Int.reduceToNat, Int.reduceNeg, reduceIte, Nat.reduceGT, Nat.reduceLT, Nat.reduceLeDiff, code9_0, code9_1, code9_2, code9_3, code9_4, code9_5, ty9, hva, hvb, hvc])
  refine ok_lights l v 40 _ (hl.lay _ _) _ (fun e1 e2 h' x => ?_) (fun h' x => ?_)
  rotate_left
  · ((first | ((with_reducible refine KOpsX_call ?_ ?_ ?_); (· exact (by (try simp only [lsz]); have := z.size; omega)); (· first | exact x | simpa only [lla] using x)) | skip); replace z := z.overW x (by (try simp only [lsz]); omega); rw [lay_nil h'])
    repeat' (first
      | simp -implicitDefEqProofs only [syms, symx, Nat.reduceAdd, Nat.reduceMul, Int.reduceLT, Int.reduceLE, Int.reduceAdd, Int.reduceSub, Int.reduceToNat, Int.reduceNeg, reduceIte, Nat.reduceGT, Nat.reduceLT, Nat.reduceLeDiff, code9_0, code9_1, code9_2, code9_3, code9_4, code9_5, ty9]
      | ((with_reducible first | apply forkD | apply forkB | apply forkN | apply forkNP | apply forkNot) <;> intro _)
      | ((with_reducible_and_instances apply unop_not); (· rfl))
      | ((with_reducible refine ⟨z.grw.lay _ _, ?_⟩); (intro _ h' zz x _); (try simp only [lay_lay, List.append_nil] at x); (replace z := zz); (clear zz); rw [lay_nil h']))
    exact hk _ (z.upW _ _ (by omega))
  have q0 := Holds.top (i := 0) x rfl
  ((first | ((with_reducible refine KOpsX_call ?_ ?_ ?_); (· exact (by (try simp only [lsz]); have := z.size; omega)); (· first | exact x | simpa only [lla] using x)) | skip); replace z := z.overW x (by (try simp only [lsz]); omega); rw [lay_nil h'])
  repeat' (first
    | simp -implicitDefEqProofs only [syms, symx, Nat.reduceAdd, Nat.reduceMul, Int.reduceLT, Int.reduceLE, Int.reduceAdd, Int.reduceSub, Int.reduceToNat, Int.reduceNeg, reduceIte, Nat.reduceGT, Nat.reduceLT, Nat.reduceLeDiff, code9_0, code9_1, code9_2, code9_3, code9_4, code9_5, ty9, hva, hvb, hvc]
    | ((with_reducible first | apply forkD | apply forkB | apply forkN | apply forkNP | apply forkNot) <;> intro _)
    | ((with_reducible_and_instances apply unop_not); (· rfl))
    | ((with_reducible refine ⟨z.grw.lay _ _, ?_⟩); (intro _ h' zz x _); (try simp only [lay_lay, List.append_nil] at x); (try replace q0 := q0.over x); (replace z := zz); (clear zz); rw [lay_nil h']))
  refine ok_lights m u 40 _ ((hm.mono z.inc).lay _ _) _ (fun e3 e4 h' x => ?_) (fun h' x => ?_)
  rotate_left
  · ((first | ((with_reducible refine KOpsX_call ?_ ?_ ?_); (· exact (by (try simp only [lsz]); have := z.size; omega)); (· first | exact x | simpa only [lla] using x)) | skip); replace z := z.overW x (by (try simp only [lsz]); omega); (try replace q0 := q0.over x); rw [lay_nil h'])
    repeat' (first
      | simp -implicitDefEqProofs only [syms, symx, Nat.reduceAdd, Nat.reduceMul, Int.reduceLT, Int.reduceLE, Int.reduceAdd, Int.reduceSub, Int.reduceToNat, Int.reduceNeg, reduceIte, Nat.reduceGT, Nat.reduceLT, Nat.reduceLeDiff, code9_0, code9_1, code9_2, code9_3, code9_4, code9_5, ty9]
      | ((with_reducible first | apply forkD | apply forkB | apply forkN | apply forkNP | apply forkNot) <;> intro _)
      | ((with_reducible_and_instances apply unop_not); (· rfl))
      | ((with_reducible refine ⟨z.grw.lay _ _, ?_⟩); (intro _ h' zz x _); (try simp only [lay_lay, List.append_nil] at x); (try replace q0 := q0.over x); (replace z := zz); (clear zz); rw [lay_nil h']))
    exact hk _ (z.upW _ _ (by omega))
  ((first | ((with_reducible refine KOpsX_call ?_ ?_ ?_); (· exact (by (try simp only [lsz]); have := z.size; omega)); (· first | exact x | simpa only [lla] using x)) | skip); replace z := z.overW x (by (try simp only [lsz]); omega); (try replace q0 := q0.over x); rw [lay_nil h'])
  repeat' (first
    | simp -implicitDefEqProofs only [syms, symx, Nat.reduceAdd, Nat.reduceMul, Int.reduceLT, Int.reduceLE, Int.reduceAdd, Int.reduceSub, Int.reduceToNat, Int.reduceNeg, reduceIte, Nat.reduceGT, Nat.reduceLT, Nat.reduceLeDiff, code9_0, code9_1, code9_2, code9_3, code9_4, code9_5, ty9, hva, hvb, hvc]
    | ((with_reducible first | apply forkD | apply forkB | apply forkN | apply forkNP | apply forkNot) <;> intro _)
    | ((with_reducible_and_instances apply unop_not); (· rfl))
    | ((with_reducible refine ⟨z.grw.lay _ _, ?_⟩); (intro _ h' zz x _); (try simp only [lay_lay, List.append_nil] at x); (try replace q0 := q0.over x); (replace z := zz); (clear zz); rw [lay_nil h']))
  refine ok_lights k w 40 _ ((hn.mono z.inc).lay _ _) _ (fun e5 e6 h' x => ?_) (fun h' x => ?_)
  rotate_left
  · ((first | ((with_reducible refine KOpsX_call ?_ ?_ ?_); (· exact (by (try simp only [lsz]); have := z.size; omega)); (· first | exact x | simpa only [lla] using x)) | skip); replace z := z.overW x (by (try simp only [lsz]); omega); (try replace q0 := q0.over x); rw [lay_nil h'])
    repeat' (first
      | simp -implicitDefEqProofs only [syms, symx, Nat.reduceAdd, Nat.reduceMul, Int.reduceLT, Int.reduceLE, Int.reduceAdd, Int.reduceSub, Int.reduceToNat, Int.reduceNeg, reduceIte, Nat.reduceGT, Nat.reduceLT, Nat.reduceLeDiff, code9_0, code9_1, code9_2, code9_3, code9_4, code9_5, ty9]
      | ((with_reducible first | apply forkD | apply forkB | apply forkN | apply forkNP | apply forkNot) <;> intro _)
      | ((with_reducible_and_instances apply unop_not); (· rfl))
      | ((with_reducible refine ⟨z.grw.lay _ _, ?_⟩); (intro _ h' zz x _); (try simp only [lay_lay, List.append_nil] at x); (try replace q0 := q0.over x); (replace z := zz); (clear zz); rw [lay_nil h']))
    exact hk _ (z.upW _ _ (by omega))
  ((first | ((with_reducible refine KOpsX_call ?_ ?_ ?_); (· exact (by (try simp only [lsz]); have := z.size; omega)); (· first | exact x | simpa only [lla] using x)) | skip); replace z := z.overW x (by (try simp only [lsz]); omega); (try replace q0 := q0.over x); rw [lay_nil h'])
  repeat' (first
    | simp -implicitDefEqProofs only [syms, symx, Nat.reduceAdd, Nat.reduceMul, Int.reduceLT, Int.reduceLE, Int.reduceAdd, Int.reduceSub, Int.reduceToNat, Int.reduceNeg, reduceIte, Nat.reduceGT, Nat.reduceLT, Nat.reduceLeDiff, code9_0, code9_1, code9_2, code9_3, code9_4, code9_5, ty9, hva, hvb, hvc, q0.lay, cells_atom, ↓cut_atom, agg_atom, valE_atom]
    | ((with_reducible first | apply forkD | apply forkB | apply forkN | apply forkNP | apply forkNot) <;> intro _)
    | ((with_reducible_and_instances apply unop_not); (· rfl))
    | ((with_reducible refine ⟨z.grw.lay _ _, ?_⟩); (intro _ h' zz x _); (try simp only [lay_lay, List.append_nil] at x); (try replace q0 := q0.over x); (replace z := zz); (clear zz); rw [lay_nil h']))
  refine ok_light a _ _ (fun e7 h' x => ?_) (fun e7 h' x => ?_)
  rotate_left
  · ((first | ((with_reducible refine KOpsX_call ?_ ?_ ?_); (· exact (by (try simp only [lsz]); have := z.size; omega)); (· first | exact x | simpa only [lla] using x)) | skip); replace z := z.overW x (by (try simp only [lsz]); omega); (try replace q0 := q0.over x); rw [lay_nil h'])
    repeat' (first
      | simp -implicitDefEqProofs only [syms, symx, Nat.reduceAdd, Nat.reduceMul, Int.reduceLT, Int.reduceLE, Int.reduceAdd, Int.reduceSub, Int.reduceToNat, Int.reduceNeg, reduceIte, Nat.reduceGT, Nat.reduceLT, Nat.reduceLeDiff, code9_0, code9_1, code9_2, code9_3, code9_4, code9_5, ty9]
      | ((with_reducible first | apply forkD | apply forkB | apply forkN | apply forkNP | apply forkNot) <;> intro _)
      | ((with_reducible_and_instances apply unop_not); (· rfl))
      | ((with_reducible refine ⟨z.grw.lay _ _, ?_⟩); (intro _ h' zz x _); (try simp only [lay_lay, List.append_nil] at x); (try replace q0 := q0.over x); (replace z := zz); (clear zz); rw [lay_nil h']))
    exact hk _ (z.upW _ _ (by omega))
  ((first | ((with_reducible refine KOpsX_call ?_ ?_ ?_); (· exact (by (try simp only [lsz]); have := z.size; omega)); (· first | exact x | simpa only [lla] using x)) | skip); replace z := z.overW x (by (try simp only [lsz]); omega); (try replace q0 := q0.over x); rw [lay_nil h'])
  repeat' (first
    | simp -implicitDefEqProofs only [syms, symx, Nat.reduceAdd, Nat.reduceMul, Int.reduceLT, Int.reduceLE, Int.reduceAdd, Int.reduceSub, Int.reduceToNat, Int.reduceNeg, reduceIte, Nat.reduceGT, Nat.reduceLT, Nat.reduceLeDiff, code9_0, code9_1, code9_2, code9_3, code9_4, code9_5, ty9, hva, hvb, hvc]
    | ((with_reducible first | apply forkD | apply forkB | apply forkN | apply forkNP | apply forkNot) <;> intro _)
    | ((with_reducible_and_instances apply unop_not); (· rfl))
    | ((with_reducible refine ⟨z.grw.lay _ _, ?_⟩); (intro _ h' zz x _); (try simp only [lay_lay, List.append_nil] at x); (try replace q0 := q0.over x); (replace z := zz); (clear zz); rw [lay_nil h']))
  have hln := fun (hh : Heap) => hl.lenA ds23 hh
  obtain ⟨I1, hI1⟩ : ∃ I : Nat → Env → Heap → Prop, I = (fun n e h' => ∃ (i : Nat) (h1 : Heap), h' = h1.lay [] h1.low ∧ Ext h h1 ∧ (n = l.length - i ∧ i ≤ l.length ∧ Holds h1 (h.size + 0) (.row a.cells 39 false)) ∧ ∃ J : Nat → Value, e = (v :: u :: w :: J 3 :: J 4 :: J 5 :: J 6 :: .pointer (some ⟨h.size + 0, 0, none⟩) :: J 8 :: .int .i64 i :: J 10 :: J 11 :: J 12 :: J 13 :: J 14 :: J 15 :: J 16 :: J 17 :: J 18 :: J 19 :: J 20 :: J 21 :: J 22 :: J 23 :: J 24 :: J 25 :: J 26 :: J 27 :: J 28 :: J 29 :: J 30 :: J 31 :: J 32 :: J 33 :: J 34 :: J 35 :: J 36 :: J 37 :: J 38 :: J 39 :: J 40 :: J 41 :: J 42 :: J 43 :: J 44 :: J 45 :: J 46 :: J 47 :: J 48 :: J 49 :: J 50 :: J 51 :: J 52 :: J 53 :: J 54 :: J 55 :: J 56 :: J 57 :: J 58 :: J 59 :: J 60 :: J 61 :: J 62 :: J 63 :: J 64 :: J 65 :: J 66 :: J 67 :: J 68 :: J 69 :: J 70 :: J 71 :: J 72 :: J 73 :: J 74 :: J 75 :: J 76 :: J 77 :: J 78 :: J 79 :: J 80 :: J 81 :: J 82 :: J 83 :: J 84 :: J 85 :: J 86 :: J 87 :: J 88 :: J 89 :: J 90 :: J 91 :: J 92 :: J 93 :: J 94 :: J 95 :: J 96 :: J 97 :: J 98 :: J 99 :: J 100 :: J 101 :: J 102 :: J 103 :: J 104 :: J 105 :: J 106 :: J 107 :: J 108 :: J 109 :: J 110 :: J 111 :: J 112 :: J 113 :: J 114 :: J 115 :: J 116 :: J 117 :: J 118 :: J 119 :: J 120 :: J 121 :: J 122 :: J 123 :: J 124 :: J 125 :: J 126 :: J 127 :: J 128 :: J 129 :: J 130 :: J 131 :: J 132 :: J 133 :: J 134 :: J 135 :: J 136 :: J 137 :: J 138 :: J 139 :: J 140 :: J 141 :: J 142 :: J 143 :: J 144 :: J 145 :: J 146 :: J 147 :: J 148 :: J 149 :: J 150 :: [])) := ⟨_, rfl⟩
  refine W_loopN I1 _ (by rw [hI1]; exact ⟨0, _, rfl, z, ⟨rfl, by omega, q0⟩, junk (by kernel_rfl)⟩) ?_
  intro n e h' hin
  rw [hI1] at hin
  obtain ⟨i, h1', rfl, z, hinv, J, rfl⟩ := hin
  clear q0
  obtain ⟨rfl, hi, q0⟩ := hinv
  have hwi : IntKind.i64.wrap ((i : Int) + 1) = ((i + 1 : Nat) : Int) := by rw [wrap_i64 (by omega) (by omega)]; omega
  simp -implicitDefEqProofs only [syms, symx, Nat.reduceAdd, Nat.reduceMul, Int.reduceLT, Int.reduceLE, Int.reduceAdd, Int.reduceSub, Int.reduceToNat, Int.reduceNeg, reduceIte, Nat.reduceGT, Nat.reduceLT, Nat.reduceLeDiff, code9_0, code9_1, code9_2, code9_3, code9_4, code9_5, ty9, hva, hln]
  refine forkD (fun hlt1 => ?_) (fun hlt1 => ?_)
  · have hr : l[(i : Int).toNat]? = some (l.getD i noAtomD) := getD_at (by omega)
    have hmem : l.getD i noAtomD ∈ l := List.mem_of_getElem? hr
    simp -implicitDefEqProofs only [syms, symx, Nat.reduceAdd, Nat.reduceMul, Int.reduceLT, Int.reduceLE, Int.reduceAdd, Int.reduceSub, Int.reduceToNat, Int.reduceNeg, reduceIte, Nat.reduceGT, Nat.reduceLT, Nat.reduceLeDiff, code9_0, code9_1, code9_2, code9_3, code9_4, code9_5, ty9, hva]
    with_reducible first | refine D9_32 (z.upW _ _ (by omega)) ?_ | refine D9_40 (z.upW _ _ (by omega)) ?_ | refine D9_44 (z.upW _ _ (by omega)) ?_ | refine D9_48 (z.upW _ _ (by omega)) ?_
    simp -implicitDefEqProofs only [syms, symx, Nat.reduceAdd, Nat.reduceMul, Int.reduceLT, Int.reduceLE, Int.reduceAdd, Int.reduceSub, Int.reduceToNat, Int.reduceNeg, reduceIte, Nat.reduceGT, Nat.reduceLT, Nat.reduceLeDiff, code9_0, code9_1, code9_2, code9_3, code9_4, code9_5, ty9, hva]
    repeat' ((first
      | ((with_reducible first | apply forkD | apply forkB | apply forkN | apply forkNP | apply forkNot) <;> intro _)
      | with_reducible_and_instances refine ixa_at (hl.mono z.inc) ds23 sz39 (by omega) hr (fun p hp => ?_)
      | with_reducible_and_instances refine lda hp ag39 sz39 ?_
      | ((with_reducible_and_instances apply unop_not); (· rfl))
      | ((with_reducible refine ⟨z.grw.lay _ _, ?_⟩); (intro _ h' zz x _); (try simp only [lay_lay, List.append_nil] at x); (try replace q0 := q0.over x); (replace z := zz); (clear zz); rw [lay_nil h'])) <;> simp -implicitDefEqProofs only [syms, symx, Nat.reduceAdd, Nat.reduceMul, Int.reduceLT, Int.reduceLE, Int.reduceAdd, Int.reduceSub, Int.reduceToNat, Int.reduceNeg, reduceIte, Nat.reduceGT, Nat.reduceLT, Nat.reduceLeDiff, code9_0, code9_1, code9_2, code9_3, code9_4, code9_5, ty9, hva, q0.lay, cells_atom, ↓cut_atom, agg_atom, valE_atom])
    refine ok_cmp _ a (e2 _ hmem) e7 _ _ (fun h' x => ?_)
    ((first | ((with_reducible refine KOpsX_call ?_ ?_ ?_); (· exact (by (try simp only [lsz]); have := z.size; omega)); (· first | exact x | simpa only [lla] using x)) | skip); replace z := z.overW x (by (try simp only [lsz]); omega); (try replace q0 := q0.over x); rw [lay_nil h'])
    simp -implicitDefEqProofs only [syms, symx, Nat.reduceAdd, Nat.reduceMul, Int.reduceLT, Int.reduceLE, Int.reduceAdd, Int.reduceSub, Int.reduceToNat, Int.reduceNeg, reduceIte, Nat.reduceGT, Nat.reduceLT, Nat.reduceLeDiff, code9_0, code9_1, code9_2, code9_3, code9_4, code9_5, ty9, hva]
    repeat' ((first
      | ((with_reducible first | apply forkD | apply forkB | apply forkN | apply forkNP | apply forkNot) <;> intro _)
      | with_reducible_and_instances refine ixa_at (hl.mono z.inc) ds23 sz39 (by omega) hr (fun p hp => ?_)
      | with_reducible_and_instances refine lda hp ag39 sz39 ?_
      | ((with_reducible_and_instances apply unop_not); (· rfl))
      | ((with_reducible refine ⟨z.grw.lay _ _, ?_⟩); (intro _ h' zz x _); (try simp only [lay_lay, List.append_nil] at x); (try replace q0 := q0.over x); (replace z := zz); (clear zz); rw [lay_nil h'])) <;> simp -implicitDefEqProofs only [syms, symx, Nat.reduceAdd, Nat.reduceMul, Int.reduceLT, Int.reduceLE, Int.reduceAdd, Int.reduceSub, Int.reduceToNat, Int.reduceNeg, reduceIte, Nat.reduceGT, Nat.reduceLT, Nat.reduceLeDiff, code9_0, code9_1, code9_2, code9_3, code9_4, code9_5, ty9, hva, q0.lay, cells_atom, ↓cut_atom, agg_atom, valE_atom])
    refine ok_cmpR _ a (e2 _ hmem) e7 _ _ (fun h' x => ?_)
    ((first | ((with_reducible refine KOpsX_call ?_ ?_ ?_); (· exact (by (try simp only [lsz]); have := z.size; omega)); (· first | exact x | simpa only [lla] using x)) | skip); replace z := z.overW x (by (try simp only [lsz]); omega); (try replace q0 := q0.over x); rw [lay_nil h'])
    simp -implicitDefEqProofs only [syms, symx, Nat.reduceAdd, Nat.reduceMul, Int.reduceLT, Int.reduceLE, Int.reduceAdd, Int.reduceSub, Int.reduceToNat, Int.reduceNeg, reduceIte, Nat.reduceGT, Nat.reduceLT, Nat.reduceLeDiff, code9_0, code9_1, code9_2, code9_3, code9_4, code9_5, ty9]
    refine forkN (fun hh => absurd rfl hh) (fun _ => ?_)
    repeat' (first
      | simp -implicitDefEqProofs only [syms, symx, Nat.reduceAdd, Nat.reduceMul, Int.reduceLT, Int.reduceLE, Int.reduceAdd, Int.reduceSub, Int.reduceToNat, Int.reduceNeg, reduceIte, Nat.reduceGT, Nat.reduceLT, Nat.reduceLeDiff, code9_0, code9_1, code9_2, code9_3, code9_4, code9_5, ty9]
      | ((with_reducible first | apply forkD | apply forkB | apply forkN | apply forkNP | apply forkNot) <;> intro _)
      | with_reducible_and_instances refine ixa_at (hl.mono z.inc) ds23 sz39 (by omega) hr (fun p hp => ?_)
      | with_reducible_and_instances refine lda hp ag39 sz39 ?_
      | ((with_reducible_and_instances apply unop_not); (· rfl))
      | ((with_reducible refine ⟨z.grw.lay _ _, ?_⟩); (intro _ h' zz x _); (try simp only [lay_lay, List.append_nil] at x); (try replace q0 := q0.over x); (replace z := zz); (clear zz); rw [lay_nil h']))
    rw [hwi]
    (rw [hI1]; with_reducible refine loopN_normal (m := _) ?_ ⟨i + 1, _, rfl, z, ⟨rfl, by omega, q0⟩, junk (by kernel_rfl)⟩; omega)
  clear hI1
  repeat' (first
    | simp -implicitDefEqProofs only [syms, symx, Nat.reduceAdd, Nat.reduceMul, Int.reduceLT, Int.reduceLE, Int.reduceAdd, Int.reduceSub, Int.reduceToNat, Int.reduceNeg, reduceIte, Nat.reduceGT, Nat.reduceLT, Nat.reduceLeDiff, code9_0, code9_1, code9_2, code9_3, code9_4, code9_5, ty9, hva]
    | ((with_reducible first | apply forkD | apply forkB | apply forkN | apply forkNP | apply forkNot) <;> intro _)
    | with_reducible_and_instances refine ixa_at (hl.mono z.inc) ds23 sz39 (by omega) hr (fun p hp => ?_)
    | with_reducible_and_instances refine lda hp ag39 sz39 ?_
    | ((with_reducible_and_instances apply unop_not); (· rfl))
    | ((with_reducible refine ⟨z.grw.lay _ _, ?_⟩); (intro _ h' zz x _); (try simp only [lay_lay, List.append_nil] at x); (try replace q0 := q0.over x); (replace z := zz); (clear zz); rw [lay_nil h']))
  have hpb : ∀ x ∈ putA a (sortA l), x.light = true := put_light (sortA_light e2) e7 (sortA_of l).asc
  have hpl := putA_length a (sortA l)
  have hll := sortA_length l
  have hdl : (delA a (sortA l)).length ≤ (sortA l).length := List.length_filter_le _ _
  obtain ⟨bb, hbb⟩ : ∃ bb, bb = putA a (sortA l) := ⟨_, rfl⟩
  obtain ⟨dd, hdd⟩ : ∃ dd, dd = delA a (sortA l) := ⟨_, rfl⟩
  obtain ⟨nb, hnb⟩ : ∃ nb, nb = !hasA l a := ⟨_, rfl⟩
  obtain ⟨gb, hgb⟩ : ∃ gb, gb = hasA l a := ⟨_, rfl⟩
  rw [← hbb] at hpb hpl
  rw [← hdd] at hdl
  have fnb := fork_var nb
  have fgb := fork_var gb
  with_reducible first | refine D9_32 (z.upW _ _ (by omega)) ?_ | refine D9_40 (z.upW _ _ (by omega)) ?_ | refine D9_44 (z.upW _ _ (by omega)) ?_ | refine D9_48 (z.upW _ _ (by omega)) ?_
  simp -implicitDefEqProofs only [syms, symx, Nat.reduceAdd, Nat.reduceMul, Int.reduceLT, Int.reduceLE, Int.reduceAdd, Int.reduceSub, Int.reduceToNat, Int.reduceNeg, reduceIte, Nat.reduceGT, Nat.reduceLT, Nat.reduceLeDiff, code9_0, code9_1, code9_2, code9_3, code9_4, code9_5, ty9, hva]
  refine ok_own l v _ ((hl.mono z.inc).lay _ _) (by omega) _ (fun o1 _ h' x o1o _ => ?_)
  have s_o1 := o1o.sl (by decide)
  clear o1o
  ((first | ((with_reducible refine KOpsX_call ?_ ?_ ?_); (· exact (by (try simp only [lsz]); have := z.size; omega)); (· first | exact x | simpa only [lla] using x)) | skip); replace z := z.overW x (by (try simp only [lsz]); omega); (try replace q0 := q0.over x); rw [lay_nil h'])
  have v_o1 : ∀ (h : Heap) (K : Value → Heap → Prop), valE (some o1) h K = K o1 h := fun _ _ => rfl
  repeat' (first
    | simp -implicitDefEqProofs only [syms, symx, Nat.reduceAdd, Nat.reduceMul, Int.reduceLT, Int.reduceLE, Int.reduceAdd, Int.reduceSub, Int.reduceToNat, Int.reduceNeg, reduceIte, Nat.reduceGT, Nat.reduceLT, Nat.reduceLeDiff, code9_0, code9_1, code9_2, code9_3, code9_4, code9_5, ty9, v_o1, hva, hvb, hvc, q0.lay, cells_atom, ↓cut_atom, agg_atom, valE_atom]
    | ((with_reducible first | apply forkD | apply forkB | apply forkN | apply forkNP | apply forkNot) <;> intro _)
    | with_reducible_and_instances refine ixa_at (hl.mono z.inc) ds23 sz39 (by omega) hr (fun p hp => ?_)
    | with_reducible_and_instances refine lda hp ag39 sz39 ?_
    | ((with_reducible_and_instances apply unop_not); (· rfl))
    | ((with_reducible refine ⟨z.grw.lay _ _, ?_⟩); (intro _ h' zz x _); (try simp only [lay_lay, List.append_nil] at x); (try replace q0 := q0.over x); (replace z := zz); (clear zz); rw [lay_nil h']))
  refine ok_add l a o1 _ (s_o1.lay _ _) (by omega) e2 e7 _ (fun h' wb x ob => ?_)
  rw [← hbb] at ob
  rw [← hnb]
  replace ob := ob.sl
  ((first | ((with_reducible refine KOpsX_call ?_ ?_ ?_); (· exact (by (try simp only [lsz]); have := z.size; omega)); (· first | exact x | simpa only [lla] using x)) | skip); replace z := z.overW x (by (try simp only [lsz]); omega); (try replace q0 := q0.over x); rw [lay_nil h'])
  have v_wb : ∀ (h : Heap) (K : Value → Heap → Prop), valE (some wb) h K = K wb h := fun _ _ => rfl
  repeat' (first
    | simp -implicitDefEqProofs only [syms, symx, Nat.reduceAdd, Nat.reduceMul, Int.reduceLT, Int.reduceLE, Int.reduceAdd, Int.reduceSub, Int.reduceToNat, Int.reduceNeg, reduceIte, Nat.reduceGT, Nat.reduceLT, Nat.reduceLeDiff, code9_0, code9_1, code9_2, code9_3, code9_4, code9_5, ty9, v_wb, fnb]
    | ((with_reducible first | apply forkD | apply forkB | apply forkN | apply forkNP | apply forkNot) <;> intro _)
    | with_reducible_and_instances refine ixa_at (hl.mono z.inc) ds23 sz39 (by omega) hr (fun p hp => ?_)
    | with_reducible_and_instances refine lda hp ag39 sz39 ?_
    | ((with_reducible_and_instances apply unop_not); (· rfl))
    | ((with_reducible refine ⟨z.grw.lay _ _, ?_⟩); (intro _ h' zz x _); (try simp only [lay_lay, List.append_nil] at x); (try replace q0 := q0.over x); (try replace ob := ob.over x); (replace z := zz); (clear zz); rw [lay_nil h']))
  simp -implicitDefEqProofs only [syms, symx, Nat.reduceAdd, Nat.reduceMul, Int.reduceLT, Int.reduceLE, Int.reduceAdd, Int.reduceSub, Int.reduceToNat, Int.reduceNeg, reduceIte, Nat.reduceGT, Nat.reduceLT, Nat.reduceLeDiff, code9_0, code9_1, code9_2, code9_3, code9_4, code9_5, ty9, hva, hvb, hvc, q0.lay, cells_atom, ↓cut_atom, agg_atom, valE_atom]
  refine ok_addR l a v _ ((hl.mono z.inc).lay _ _) (by omega) e2 e7 _ (fun h' wc x oc => ?_)
  rw [← hbb] at oc
  rw [← hnb]
  replace oc := (oc.own (by omega)).sl
  ((first | ((with_reducible refine KOpsX_call ?_ ?_ ?_); (· exact (by (try simp only [lsz]); have := z.size; omega)); (· first | exact x | simpa only [lla] using x)) | skip); replace z := z.overW x (by (try simp only [lsz]); omega); (try replace q0 := q0.over x); (try replace ob := ob.over x); rw [lay_nil h'])
  have v_wc : ∀ (h : Heap) (K : Value → Heap → Prop), valE (some wc) h K = K wc h := fun _ _ => rfl
  repeat' (first
    | simp -implicitDefEqProofs only [syms, symx, Nat.reduceAdd, Nat.reduceMul, Int.reduceLT, Int.reduceLE, Int.reduceAdd, Int.reduceSub, Int.reduceToNat, Int.reduceNeg, reduceIte, Nat.reduceGT, Nat.reduceLT, Nat.reduceLeDiff, code9_0, code9_1, code9_2, code9_3, code9_4, code9_5, ty9, v_wc, fnb]
    | ((with_reducible first | apply forkD | apply forkB | apply forkN | apply forkNP | apply forkNot) <;> intro _)
    | with_reducible_and_instances refine ixa_at (hl.mono z.inc) ds23 sz39 (by omega) hr (fun p hp => ?_)
    | with_reducible_and_instances refine lda hp ag39 sz39 ?_
    | ((with_reducible_and_instances apply unop_not); (· rfl))
    | ((with_reducible refine ⟨z.grw.lay _ _, ?_⟩); (intro _ h' zz x _); (try simp only [lay_lay, List.append_nil] at x); (try replace q0 := q0.over x); (try replace ob := ob.over x); (try replace oc := oc.over x); (replace z := zz); (clear zz); rw [lay_nil h']))
  with_reducible first | refine D9_32 (z.upW _ _ (by omega)) ?_ | refine D9_40 (z.upW _ _ (by omega)) ?_ | refine D9_44 (z.upW _ _ (by omega)) ?_ | refine D9_48 (z.upW _ _ (by omega)) ?_
  simp -implicitDefEqProofs only [syms, symx, Nat.reduceAdd, Nat.reduceMul, Int.reduceLT, Int.reduceLE, Int.reduceAdd, Int.reduceSub, Int.reduceToNat, Int.reduceNeg, reduceIte, Nat.reduceGT, Nat.reduceLT, Nat.reduceLeDiff, code9_0, code9_1, code9_2, code9_3, code9_4, code9_5, ty9, hva]
  refine ok_own l v _ ((hl.mono z.inc).lay _ _) (by omega) _ (fun o2 _ h' x o2o _ => ?_)
  have s_o2 := o2o.sl (by decide)
  clear o2o
  ((first | ((with_reducible refine KOpsX_call ?_ ?_ ?_); (· exact (by (try simp only [lsz]); have := z.size; omega)); (· first | exact x | simpa only [lla] using x)) | skip); replace z := z.overW x (by (try simp only [lsz]); omega); (try replace q0 := q0.over x); (try replace ob := ob.over x); (try replace oc := oc.over x); rw [lay_nil h'])
  have v_o2 : ∀ (h : Heap) (K : Value → Heap → Prop), valE (some o2) h K = K o2 h := fun _ _ => rfl
  repeat' (first
    | simp -implicitDefEqProofs only [syms, symx, Nat.reduceAdd, Nat.reduceMul, Int.reduceLT, Int.reduceLE, Int.reduceAdd, Int.reduceSub, Int.reduceToNat, Int.reduceNeg, reduceIte, Nat.reduceGT, Nat.reduceLT, Nat.reduceLeDiff, code9_0, code9_1, code9_2, code9_3, code9_4, code9_5, ty9, v_o2, hva, hvb, hvc, q0.lay, cells_atom, ↓cut_atom, agg_atom, valE_atom]
    | ((with_reducible first | apply forkD | apply forkB | apply forkN | apply forkNP | apply forkNot) <;> intro _)
    | with_reducible_and_instances refine ixa_at (hl.mono z.inc) ds23 sz39 (by omega) hr (fun p hp => ?_)
    | with_reducible_and_instances refine lda hp ag39 sz39 ?_
    | ((with_reducible_and_instances apply unop_not); (· rfl))
    | ((with_reducible refine ⟨z.grw.lay _ _, ?_⟩); (intro _ h' zz x _); (try simp only [lay_lay, List.append_nil] at x); (try replace q0 := q0.over x); (try replace ob := ob.over x); (try replace oc := oc.over x); (replace z := zz); (clear zz); rw [lay_nil h']))
  refine ok_remove l a o2 _ (s_o2.lay _ _) (by omega) e2 e7 _ (fun h' wd x od => ?_)
  rw [← hdd] at od
  rw [← hgb]
  replace od := od.sl
  ((first | ((with_reducible refine KOpsX_call ?_ ?_ ?_); (· exact (by (try simp only [lsz]); have := z.size; omega)); (· first | exact x | simpa only [lla] using x)) | skip); replace z := z.overW x (by (try simp only [lsz]); omega); (try replace q0 := q0.over x); (try replace ob := ob.over x); (try replace oc := oc.over x); rw [lay_nil h'])
  have v_wd : ∀ (h : Heap) (K : Value → Heap → Prop), valE (some wd) h K = K wd h := fun _ _ => rfl
  repeat' (first
    | simp -implicitDefEqProofs only [syms, symx, Nat.reduceAdd, Nat.reduceMul, Int.reduceLT, Int.reduceLE, Int.reduceAdd, Int.reduceSub, Int.reduceToNat, Int.reduceNeg, reduceIte, Nat.reduceGT, Nat.reduceLT, Nat.reduceLeDiff, code9_0, code9_1, code9_2, code9_3, code9_4, code9_5, ty9, v_wd, fgb]
    | ((with_reducible first | apply forkD | apply forkB | apply forkN | apply forkNP | apply forkNot) <;> intro _)
    | with_reducible_and_instances refine ixa_at (hl.mono z.inc) ds23 sz39 (by omega) hr (fun p hp => ?_)
    | with_reducible_and_instances refine lda hp ag39 sz39 ?_
    | ((with_reducible_and_instances apply unop_not); (· rfl))
    | ((with_reducible refine ⟨z.grw.lay _ _, ?_⟩); (intro _ h' zz x _); (try simp only [lay_lay, List.append_nil] at x); (try replace q0 := q0.over x); (try replace ob := ob.over x); (try replace oc := oc.over x); (try replace od := od.over x); (replace z := zz); (clear zz); rw [lay_nil h']))
  simp -implicitDefEqProofs only [syms, symx, Nat.reduceAdd, Nat.reduceMul, Int.reduceLT, Int.reduceLE, Int.reduceAdd, Int.reduceSub, Int.reduceToNat, Int.reduceNeg, reduceIte, Nat.reduceGT, Nat.reduceLT, Nat.reduceLeDiff, code9_0, code9_1, code9_2, code9_3, code9_4, code9_5, ty9, hva, hvb, hvc, q0.lay, cells_atom, ↓cut_atom, agg_atom, valE_atom]
  refine ok_removeR l a v _ ((hl.mono z.inc).lay _ _) (by omega) e2 e7 _ (fun h' we x oe => ?_)
  rw [← hdd] at oe
  rw [← hgb]
  ((first | ((with_reducible refine KOpsX_call ?_ ?_ ?_); (· exact (by (try simp only [lsz]); have := z.size; omega)); (· first | exact x | simpa only [lla] using x)) | skip); replace z := z.overW x (by (try simp only [lsz]); omega); (try replace q0 := q0.over x); (try replace ob := ob.over x); (try replace oc := oc.over x); (try replace od := od.over x); rw [lay_nil h'])
  have v_we : ∀ (h : Heap) (K : Value → Heap → Prop), valE (some we) h K = K we h := fun _ _ => rfl
  repeat' (first
    | simp -implicitDefEqProofs only [syms, symx, Nat.reduceAdd, Nat.reduceMul, Int.reduceLT, Int.reduceLE, Int.reduceAdd, Int.reduceSub, Int.reduceToNat, Int.reduceNeg, reduceIte, Nat.reduceGT, Nat.reduceLT, Nat.reduceLeDiff, code9_0, code9_1, code9_2, code9_3, code9_4, code9_5, ty9, v_we, fgb]
    | ((with_reducible first | apply forkD | apply forkB | apply forkN | apply forkNP | apply forkNot) <;> intro _)
    | with_reducible_and_instances refine ixa_at (hl.mono z.inc) ds23 sz39 (by omega) hr (fun p hp => ?_)
    | with_reducible_and_instances refine lda hp ag39 sz39 ?_
    | ((with_reducible_and_instances apply unop_not); (· rfl))
    | ((with_reducible refine ⟨z.grw.lay _ _, ?_⟩); (intro _ h' zz x _); (try simp only [lay_lay, List.append_nil] at x); (try replace q0 := q0.over x); (try replace ob := ob.over x); (try replace oc := oc.over x); (try replace od := od.over x); (try replace oe := oe.over x); (replace z := zz); (clear zz); rw [lay_nil h']))
  with_reducible first | refine D9_32 (z.upW _ _ (by omega)) ?_ | refine D9_40 (z.upW _ _ (by omega)) ?_ | refine D9_44 (z.upW _ _ (by omega)) ?_ | refine D9_48 (z.upW _ _ (by omega)) ?_
  simp -implicitDefEqProofs only [syms, symx, Nat.reduceAdd, Nat.reduceMul, Int.reduceLT, Int.reduceLE, Int.reduceAdd, Int.reduceSub, Int.reduceToNat, Int.reduceNeg, reduceIte, Nat.reduceGT, Nat.reduceLT, Nat.reduceLeDiff, code9_0, code9_1, code9_2, code9_3, code9_4, code9_5, ty9, v_wb, v_wc]
  refine ok_sameAtoms bb bb wb wc _ (ob.lay _ _) (oc.lay _ _) (by omega) (by omega) _ (fun h' x => ?_)
  rw [decide_eq_true rfl]
  ((first | ((with_reducible refine KOpsX_call ?_ ?_ ?_); (· exact (by (try simp only [lsz]); have := z.size; omega)); (· first | exact x | simpa only [lla] using x)) | skip); replace z := z.overW x (by (try simp only [lsz]); omega); (try replace q0 := q0.over x); (try replace ob := ob.over x); (try replace oc := oc.over x); (try replace od := od.over x); (try replace oe := oe.over x); rw [lay_nil h'])
  repeat' (first
    | simp -implicitDefEqProofs only [syms, symx, Nat.reduceAdd, Nat.reduceMul, Int.reduceLT, Int.reduceLE, Int.reduceAdd, Int.reduceSub, Int.reduceToNat, Int.reduceNeg, reduceIte, Nat.reduceGT, Nat.reduceLT, Nat.reduceLeDiff, code9_0, code9_1, code9_2, code9_3, code9_4, code9_5, ty9, bin_boolS, v_wd, v_we]
    | ((with_reducible first | apply forkD | apply forkB | apply forkN | apply forkNP | apply forkNot) <;> intro _)
    | with_reducible_and_instances refine ixa_at (hl.mono z.inc) ds23 sz39 (by omega) hr (fun p hp => ?_)
    | with_reducible_and_instances refine lda hp ag39 sz39 ?_
    | ((with_reducible_and_instances apply unop_not); (· rfl))
    | ((with_reducible refine ⟨z.grw.lay _ _, ?_⟩); (intro _ h' zz x _); (try simp only [lay_lay, List.append_nil] at x); (try replace q0 := q0.over x); (try replace ob := ob.over x); (try replace oc := oc.over x); (try replace od := od.over x); (try replace oe := oe.over x); (replace z := zz); (clear zz); rw [lay_nil h']))
  refine ok_sameAtoms dd dd wd we _ (od.lay _ _) (oe.lay _ _) (by omega) (by omega) _ (fun h' x => ?_)
  rw [decide_eq_true rfl]
  ((first | ((with_reducible refine KOpsX_call ?_ ?_ ?_); (· exact (by (try simp only [lsz]); have := z.size; omega)); (· first | exact x | simpa only [lla] using x)) | skip); replace z := z.overW x (by (try simp only [lsz]); omega); (try replace q0 := q0.over x); (try replace ob := ob.over x); (try replace oc := oc.over x); (try replace od := od.over x); (try replace oe := oe.over x); rw [lay_nil h'])
  clear ob oc od oe
  have lln : l.length ≤ 40 := by omega
  repeat' (first
    | simp -implicitDefEqProofs only [syms, symx, Nat.reduceAdd, Nat.reduceMul, Int.reduceLT, Int.reduceLE, Int.reduceAdd, Int.reduceSub, Int.reduceToNat, Int.reduceNeg, reduceIte, Nat.reduceGT, Nat.reduceLT, Nat.reduceLeDiff, code9_0, code9_1, code9_2, code9_3, code9_4, code9_5, ty9, bin_boolS, hva, hvb, hvc, q0.lay, cells_atom, ↓cut_atom, agg_atom, valE_atom]
    | ((with_reducible first | apply forkD | apply forkB | apply forkN | apply forkNP | apply forkNot) <;> intro _)
    | with_reducible_and_instances refine ixa_at (hl.mono z.inc) ds23 sz39 (by omega) hr (fun p hp => ?_)
    | with_reducible_and_instances refine lda hp ag39 sz39 ?_
    | ((with_reducible_and_instances apply unop_not); (· rfl))
    | ((with_reducible refine ⟨z.grw.lay _ _, ?_⟩); (intro _ h' zz x _); (try simp only [lay_lay, List.append_nil] at x); (try replace q0 := q0.over x); (replace z := zz); (clear zz); rw [lay_nil h']))
  refine ok_is l v _ ((hl.mono z.inc).lay _ _) (by omega) e2 _ (fun h' x => ?_)
  ((first | ((with_reducible refine KOpsX_call ?_ ?_ ?_); (· exact (by (try simp only [lsz]); have := z.size; omega)); (· first | exact x | simpa only [lla] using x)) | skip); replace z := z.overW x (by (try simp only [lsz]); omega); (try replace q0 := q0.over x); rw [lay_nil h'])
  obtain ⟨ib, hib⟩ : ∃ ib, ib = isA l := ⟨_, rfl⟩
  rw [← hib]
  have fib := fork_var ib
  repeat' (first
    | simp -implicitDefEqProofs only [syms, symx, Nat.reduceAdd, Nat.reduceMul, Int.reduceLT, Int.reduceLE, Int.reduceAdd, Int.reduceSub, Int.reduceToNat, Int.reduceNeg, reduceIte, Nat.reduceGT, Nat.reduceLT, Nat.reduceLeDiff, code9_0, code9_1, code9_2, code9_3, code9_4, code9_5, ty9, bin_boolS, fib, hva, hvb, hvc, q0.lay, cells_atom, ↓cut_atom, agg_atom, valE_atom]
    | ((with_reducible first | apply forkD | apply forkB | apply forkN | apply forkNP | apply forkNot) <;> intro _)
    | with_reducible_and_instances refine ixa_at (hl.mono z.inc) ds23 sz39 (by omega) hr (fun p hp => ?_)
    | with_reducible_and_instances refine lda hp ag39 sz39 ?_
    | ((with_reducible_and_instances apply unop_not); (· rfl))
    | ((with_reducible refine ⟨z.grw.lay _ _, ?_⟩); (intro _ h' zz x _); (try simp only [lay_lay, List.append_nil] at x); (try replace q0 := q0.over x); (replace z := zz); (clear zz); rw [lay_nil h']))
  refine ok_isR l v _ ((hl.mono z.inc).lay _ _) (by omega) e2 _ (fun h' x => ?_)
  ((first | ((with_reducible refine KOpsX_call ?_ ?_ ?_); (· exact (by (try simp only [lsz]); have := z.size; omega)); (· first | exact x | simpa only [lla] using x)) | skip); replace z := z.overW x (by (try simp only [lsz]); omega); (try replace q0 := q0.over x); rw [lay_nil h'])
  rw [← hib]
  repeat' (first
    | simp -implicitDefEqProofs only [syms, symx, Nat.reduceAdd, Nat.reduceMul, Int.reduceLT, Int.reduceLE, Int.reduceAdd, Int.reduceSub, Int.reduceToNat, Int.reduceNeg, reduceIte, Nat.reduceGT, Nat.reduceLT, Nat.reduceLeDiff, code9_0, code9_1, code9_2, code9_3, code9_4, code9_5, ty9, bin_boolS, fib, hva, hvb, hvc, q0.lay, cells_atom, ↓cut_atom, agg_atom, valE_atom]
    | ((with_reducible first | apply forkD | apply forkB | apply forkN | apply forkNP | apply forkNot) <;> intro _)
    | with_reducible_and_instances refine ixa_at (hl.mono z.inc) ds23 sz39 (by omega) hr (fun p hp => ?_)
    | with_reducible_and_instances refine lda hp ag39 sz39 ?_
    | ((with_reducible_and_instances apply unop_not); (· rfl))
    | ((with_reducible refine ⟨z.grw.lay _ _, ?_⟩); (intro _ h' zz x _); (try simp only [lay_lay, List.append_nil] at x); (try replace q0 := q0.over x); (replace z := zz); (clear zz); rw [lay_nil h']))
  refine ok_own l v _ ((hl.mono z.inc).lay _ _) (by omega) _ (fun o3 _ h' x o3o _ => ?_)
  have s_o3 := o3o.sl (by decide)
  clear o3o
  ((first | ((with_reducible refine KOpsX_call ?_ ?_ ?_); (· exact (by (try simp only [lsz]); have := z.size; omega)); (· first | exact x | simpa only [lla] using x)) | skip); replace z := z.overW x (by (try simp only [lsz]); omega); (try replace q0 := q0.over x); rw [lay_nil h'])
  have v_o3 : ∀ (h : Heap) (K : Value → Heap → Prop), valE (some o3) h K = K o3 h := fun _ _ => rfl
  repeat' (first
    | simp -implicitDefEqProofs only [syms, symx, Nat.reduceAdd, Nat.reduceMul, Int.reduceLT, Int.reduceLE, Int.reduceAdd, Int.reduceSub, Int.reduceToNat, Int.reduceNeg, reduceIte, Nat.reduceGT, Nat.reduceLT, Nat.reduceLeDiff, code9_0, code9_1, code9_2, code9_3, code9_4, code9_5, ty9, v_o3]
    | ((with_reducible first | apply forkD | apply forkB | apply forkN | apply forkNP | apply forkNot) <;> intro _)
    | with_reducible_and_instances refine ixa_at (hl.mono z.inc) ds23 sz39 (by omega) hr (fun p hp => ?_)
    | with_reducible_and_instances refine lda hp ag39 sz39 ?_
    | ((with_reducible_and_instances apply unop_not); (· rfl))
    | ((with_reducible refine ⟨z.grw.lay _ _, ?_⟩); (intro _ h' zz x _); (try simp only [lay_lay, List.append_nil] at x); (try replace q0 := q0.over x); (replace z := zz); (clear zz); rw [lay_nil h']))
  refine ok_sorted l o3 _ (s_o3.lay _ _) (by omega) e2 _ (fun h' wb x ob => ?_)
  replace ob := ob.sl
  ((first | ((with_reducible refine KOpsX_call ?_ ?_ ?_); (· exact (by (try simp only [lsz]); have := z.size; omega)); (· first | exact x | simpa only [lla] using x)) | skip); replace z := z.overW x (by (try simp only [lsz]); omega); (try replace q0 := q0.over x); rw [lay_nil h'])
  have v_wb : ∀ (h : Heap) (K : Value → Heap → Prop), valE (some wb) h K = K wb h := fun _ _ => rfl
  repeat' (first
    | simp -implicitDefEqProofs only [syms, symx, Nat.reduceAdd, Nat.reduceMul, Int.reduceLT, Int.reduceLE, Int.reduceAdd, Int.reduceSub, Int.reduceToNat, Int.reduceNeg, reduceIte, Nat.reduceGT, Nat.reduceLT, Nat.reduceLeDiff, code9_0, code9_1, code9_2, code9_3, code9_4, code9_5, ty9, v_wb, hva, hvb, hvc, q0.lay, cells_atom, ↓cut_atom, agg_atom, valE_atom]
    | ((with_reducible first | apply forkD | apply forkB | apply forkN | apply forkNP | apply forkNot) <;> intro _)
    | with_reducible_and_instances refine ixa_at (hl.mono z.inc) ds23 sz39 (by omega) hr (fun p hp => ?_)
    | with_reducible_and_instances refine lda hp ag39 sz39 ?_
    | ((with_reducible_and_instances apply unop_not); (· rfl))
    | ((with_reducible refine ⟨z.grw.lay _ _, ?_⟩); (intro _ h' zz x _); (try simp only [lay_lay, List.append_nil] at x); (try replace q0 := q0.over x); (try replace ob := ob.over x); (replace z := zz); (clear zz); rw [lay_nil h']))
  refine ok_sortedR l.length l v _ (Nat.le_refl _) ((hl.mono z.inc).lay _ _) (by omega) e2 _ (fun h' wc x oc => ?_)
  replace oc := (oc.own (by omega)).sl
  ((first | ((with_reducible refine KOpsX_call ?_ ?_ ?_); (· exact (by (try simp only [lsz]); have := z.size; omega)); (· first | exact x | simpa only [lla] using x)) | skip); replace z := z.overW x (by (try simp only [lsz]); omega); (try replace q0 := q0.over x); (try replace ob := ob.over x); rw [lay_nil h'])
  have v_wc : ∀ (h : Heap) (K : Value → Heap → Prop), valE (some wc) h K = K wc h := fun _ _ => rfl
  repeat' (first
    | simp -implicitDefEqProofs only [syms, symx, Nat.reduceAdd, Nat.reduceMul, Int.reduceLT, Int.reduceLE, Int.reduceAdd, Int.reduceSub, Int.reduceToNat, Int.reduceNeg, reduceIte, Nat.reduceGT, Nat.reduceLT, Nat.reduceLeDiff, code9_0, code9_1, code9_2, code9_3, code9_4, code9_5, ty9, v_wb, v_wc]
    | ((with_reducible first | apply forkD | apply forkB | apply forkN | apply forkNP | apply forkNot) <;> intro _)
    | with_reducible_and_instances refine ixa_at (hl.mono z.inc) ds23 sz39 (by omega) hr (fun p hp => ?_)
    | with_reducible_and_instances refine lda hp ag39 sz39 ?_
    | ((with_reducible_and_instances apply unop_not); (· rfl))
    | ((with_reducible refine ⟨z.grw.lay _ _, ?_⟩); (intro _ h' zz x _); (try simp only [lay_lay, List.append_nil] at x); (try replace q0 := q0.over x); (try replace ob := ob.over x); (try replace oc := oc.over x); (replace z := zz); (clear zz); rw [lay_nil h']))
  refine ok_sameAtoms (sortA l) (sortA l) wb wc _ (ob.lay _ _) (oc.lay _ _) (by omega) (by omega) _ (fun h' x => ?_)
  rw [decide_eq_true rfl]
  ((first | ((with_reducible refine KOpsX_call ?_ ?_ ?_); (· exact (by (try simp only [lsz]); have := z.size; omega)); (· first | exact x | simpa only [lla] using x)) | skip); replace z := z.overW x (by (try simp only [lsz]); omega); (try replace q0 := q0.over x); (try replace ob := ob.over x); (try replace oc := oc.over x); rw [lay_nil h'])
  clear ob oc
  repeat' (first
    | simp -implicitDefEqProofs only [syms, symx, Nat.reduceAdd, Nat.reduceMul, Int.reduceLT, Int.reduceLE, Int.reduceAdd, Int.reduceSub, Int.reduceToNat, Int.reduceNeg, reduceIte, Nat.reduceGT, Nat.reduceLT, Nat.reduceLeDiff, code9_0, code9_1, code9_2, code9_3, code9_4, code9_5, ty9, bin_boolS, hva, hvb, hvc, q0.lay, cells_atom, ↓cut_atom, agg_atom, valE_atom]
    | ((with_reducible first | apply forkD | apply forkB | apply forkN | apply forkNP | apply forkNot) <;> intro _)
    | with_reducible_and_instances refine ixa_at (hl.mono z.inc) ds23 sz39 (by omega) hr (fun p hp => ?_)
    | with_reducible_and_instances refine lda hp ag39 sz39 ?_
    | ((with_reducible_and_instances apply unop_not); (· rfl))
    | ((with_reducible refine ⟨z.grw.lay _ _, ?_⟩); (intro _ h' zz x _); (try simp only [lay_lay, List.append_nil] at x); (try replace q0 := q0.over x); (replace z := zz); (clear zz); rw [lay_nil h']))
  refine ok_has l a v _ ((hl.mono z.inc).lay _ _) (by omega) e2 e7 _ (fun h' x => ?_)
  rw [← hgb]
  ((first | ((with_reducible refine KOpsX_call ?_ ?_ ?_); (· exact (by (try simp only [lsz]); have := z.size; omega)); (· first | exact x | simpa only [lla] using x)) | skip); replace z := z.overW x (by (try simp only [lsz]); omega); (try replace q0 := q0.over x); rw [lay_nil h'])
  repeat' (first
    | simp -implicitDefEqProofs only [syms, symx, Nat.reduceAdd, Nat.reduceMul, Int.reduceLT, Int.reduceLE, Int.reduceAdd, Int.reduceSub, Int.reduceToNat, Int.reduceNeg, reduceIte, Nat.reduceGT, Nat.reduceLT, Nat.reduceLeDiff, code9_0, code9_1, code9_2, code9_3, code9_4, code9_5, ty9, bin_boolS, fgb, hva, hvb, hvc, q0.lay, cells_atom, ↓cut_atom, agg_atom, valE_atom]
    | ((with_reducible first | apply forkD | apply forkB | apply forkN | apply forkNP | apply forkNot) <;> intro _)
    | with_reducible_and_instances refine ixa_at (hl.mono z.inc) ds23 sz39 (by omega) hr (fun p hp => ?_)
    | with_reducible_and_instances refine lda hp ag39 sz39 ?_
    | ((with_reducible_and_instances apply unop_not); (· rfl))
    | ((with_reducible refine ⟨z.grw.lay _ _, ?_⟩); (intro _ h' zz x _); (try simp only [lay_lay, List.append_nil] at x); (try replace q0 := q0.over x); (replace z := zz); (clear zz); rw [lay_nil h']))
  refine ok_hasR l a v _ ((hl.mono z.inc).lay _ _) (by omega) e2 e7 _ (fun h' x => ?_)
  rw [← hgb]
  ((first | ((with_reducible refine KOpsX_call ?_ ?_ ?_); (· exact (by (try simp only [lsz]); have := z.size; omega)); (· first | exact x | simpa only [lla] using x)) | skip); replace z := z.overW x (by (try simp only [lsz]); omega); (try replace q0 := q0.over x); rw [lay_nil h'])
  repeat' (first
    | simp -implicitDefEqProofs only [syms, symx, Nat.reduceAdd, Nat.reduceMul, Int.reduceLT, Int.reduceLE, Int.reduceAdd, Int.reduceSub, Int.reduceToNat, Int.reduceNeg, reduceIte, Nat.reduceGT, Nat.reduceLT, Nat.reduceLeDiff, code9_0, code9_1, code9_2, code9_3, code9_4, code9_5, ty9, bin_boolS, fgb, hva, hvb, hvc, q0.lay, cells_atom, ↓cut_atom, agg_atom, valE_atom]
    | ((with_reducible first | apply forkD | apply forkB | apply forkN | apply forkNP | apply forkNot) <;> intro _)
    | with_reducible_and_instances refine ixa_at (hl.mono z.inc) ds23 sz39 (by omega) hr (fun p hp => ?_)
    | with_reducible_and_instances refine lda hp ag39 sz39 ?_
    | ((with_reducible_and_instances apply unop_not); (· rfl))
    | ((with_reducible refine ⟨z.grw.lay _ _, ?_⟩); (intro _ h' zz x _); (try simp only [lay_lay, List.append_nil] at x); (try replace q0 := q0.over x); (replace z := zz); (clear zz); rw [lay_nil h']))
  refine ok_own l v _ ((hl.mono z.inc).lay _ _) (by omega) _ (fun o4 _ h' x o4o _ => ?_)
  have s_o4 := o4o.sl (by decide)
  clear o4o
  ((first | ((with_reducible refine KOpsX_call ?_ ?_ ?_); (· exact (by (try simp only [lsz]); have := z.size; omega)); (· first | exact x | simpa only [lla] using x)) | skip); replace z := z.overW x (by (try simp only [lsz]); omega); (try replace q0 := q0.over x); rw [lay_nil h'])
  have v_o4 : ∀ (h : Heap) (K : Value → Heap → Prop), valE (some o4) h K = K o4 h := fun _ _ => rfl
  repeat' (first
    | simp -implicitDefEqProofs only [syms, symx, Nat.reduceAdd, Nat.reduceMul, Int.reduceLT, Int.reduceLE, Int.reduceAdd, Int.reduceSub, Int.reduceToNat, Int.reduceNeg, reduceIte, Nat.reduceGT, Nat.reduceLT, Nat.reduceLeDiff, code9_0, code9_1, code9_2, code9_3, code9_4, code9_5, ty9, v_o4, hva, hvb, hvc]
    | ((with_reducible first | apply forkD | apply forkB | apply forkN | apply forkNP | apply forkNot) <;> intro _)
    | with_reducible_and_instances refine ixa_at (hl.mono z.inc) ds23 sz39 (by omega) hr (fun p hp => ?_)
    | with_reducible_and_instances refine lda hp ag39 sz39 ?_
    | ((with_reducible_and_instances apply unop_not); (· rfl))
    | ((with_reducible refine ⟨z.grw.lay _ _, ?_⟩); (intro _ h' zz x _); (try simp only [lay_lay, List.append_nil] at x); (try replace q0 := q0.over x); (try replace s_o4 := s_o4.over x); (replace z := zz); (clear zz); rw [lay_nil h']))
  refine ok_own m u _ ((hm.mono z.inc).lay _ _) (by omega) _ (fun o5 _ h' x o5o _ => ?_)
  have s_o5 := o5o.sl (by decide)
  clear o5o
  ((first | ((with_reducible refine KOpsX_call ?_ ?_ ?_); (· exact (by (try simp only [lsz]); have := z.size; omega)); (· first | exact x | simpa only [lla] using x)) | skip); replace z := z.overW x (by (try simp only [lsz]); omega); (try replace q0 := q0.over x); (try replace s_o4 := s_o4.over x); rw [lay_nil h'])
  have v_o5 : ∀ (h : Heap) (K : Value → Heap → Prop), valE (some o5) h K = K o5 h := fun _ _ => rfl
  repeat' (first
    | simp -implicitDefEqProofs only [syms, symx, Nat.reduceAdd, Nat.reduceMul, Int.reduceLT, Int.reduceLE, Int.reduceAdd, Int.reduceSub, Int.reduceToNat, Int.reduceNeg, reduceIte, Nat.reduceGT, Nat.reduceLT, Nat.reduceLeDiff, code9_0, code9_1, code9_2, code9_3, code9_4, code9_5, ty9, v_o5, hva, hvb, hvc]
    | ((with_reducible first | apply forkD | apply forkB | apply forkN | apply forkNP | apply forkNot) <;> intro _)
    | with_reducible_and_instances refine ixa_at (hl.mono z.inc) ds23 sz39 (by omega) hr (fun p hp => ?_)
    | with_reducible_and_instances refine lda hp ag39 sz39 ?_
    | ((with_reducible_and_instances apply unop_not); (· rfl))
    | ((with_reducible refine ⟨z.grw.lay _ _, ?_⟩); (intro _ h' zz x _); (try simp only [lay_lay, List.append_nil] at x); (try replace q0 := q0.over x); (try replace s_o4 := s_o4.over x); (try replace s_o5 := s_o5.over x); (replace z := zz); (clear zz); rw [lay_nil h']))
  refine ok_own k w _ ((hn.mono z.inc).lay _ _) (by omega) _ (fun o6 _ h' x o6o _ => ?_)
  have s_o6 := o6o.sl (by decide)
  clear o6o
  ((first | ((with_reducible refine KOpsX_call ?_ ?_ ?_); (· exact (by (try simp only [lsz]); have := z.size; omega)); (· first | exact x | simpa only [lla] using x)) | skip); replace z := z.overW x (by (try simp only [lsz]); omega); (try replace q0 := q0.over x); (try replace s_o4 := s_o4.over x); (try replace s_o5 := s_o5.over x); rw [lay_nil h'])
  have v_o6 : ∀ (h : Heap) (K : Value → Heap → Prop), valE (some o6) h K = K o6 h := fun _ _ => rfl
  have c4 := sl_cells s_o4
  have c5 := sl_cells s_o5
  have c6 := sl_cells s_o6
  have cv := sl_cells hl
  have cu := sl_cells hm
  have cw := sl_cells hn
  have flmk : [l, m, k].flatten = l ++ (m ++ k) := by simp
  have hlen : (l ++ (m ++ k)).length ≤ 120 := by
    simp only [List.length_append]
    omega
  have hlg : ∀ x ∈ l ++ (m ++ k), x.light = true := fun x hx => (List.mem_append.1 hx).elim (e2 x) (fun hx => (List.mem_append.1 hx).elim (e4 x) (e6 x))
  repeat' (first
    | simp -implicitDefEqProofs only [syms, symx, Nat.reduceAdd, Nat.reduceMul, Int.reduceLT, Int.reduceLE, Int.reduceAdd, Int.reduceSub, Int.reduceToNat, Int.reduceNeg, reduceIte, Nat.reduceGT, Nat.reduceLT, Nat.reduceLeDiff, code9_0, code9_1, code9_2, code9_3, code9_4, code9_5, ty9, v_o4, v_o5, v_o6, fill_sl3 c4 c5 c6]
    | ((with_reducible first | apply forkD | apply forkB | apply forkN | apply forkNP | apply forkNot) <;> intro _)
    | with_reducible_and_instances refine ixa_at (hl.mono z.inc) ds23 sz39 (by omega) hr (fun p hp => ?_)
    | with_reducible_and_instances refine lda hp ag39 sz39 ?_
    | ((with_reducible_and_instances apply unop_not); (· rfl))
    | ((with_reducible refine ⟨z.grw.lay _ _, ?_⟩); (intro _ h' zz x _); (try simp only [lay_lay, List.append_nil] at x); (try replace q0 := q0.over x); (try replace s_o4 := s_o4.over x); (try replace s_o5 := s_o5.over x); (replace z := zz); (clear zz); rw [lay_nil h']))
  have hz7 := z.size
  refine KOpsX_alloc (by omega) (by omega) ?_
  simp -implicitDefEqProofs only [syms, symx, Nat.reduceAdd, Nat.reduceMul, Int.reduceLT, Int.reduceLE, Int.reduceAdd, Int.reduceSub, Int.reduceToNat, Int.reduceNeg, reduceIte, Nat.reduceGT, Nat.reduceLT, Nat.reduceLeDiff, code9_0, code9_1, code9_2, code9_3, code9_4, code9_5, ty9, v_o6]
  refine ok_merge [l, m, k] _ _ (sl_laid3 s_o4 s_o5 s_o6) (by simp) (by rw [flmk]; omega) (by rw [flmk]; exact hlg) _ (fun h' wb x ob => ?_)
  rw [flmk] at ob
  replace ob := ob.sl
  ((first | ((with_reducible refine KOpsX_call ?_ ?_ ?_); (· exact (by (try simp only [lsz]); have := z.size; omega)); (· first | exact x | simpa only [lla] using x)) | skip); replace z := z.overW x (by (try simp only [lsz]); omega); (try replace q0 := q0.over x); rw [lay_nil h'])
  have v_wb : ∀ (h : Heap) (K : Value → Heap → Prop), valE (some wb) h K = K wb h := fun _ _ => rfl
  repeat' (first
    | simp -implicitDefEqProofs only [syms, symx, Nat.reduceAdd, Nat.reduceMul, Int.reduceLT, Int.reduceLE, Int.reduceAdd, Int.reduceSub, Int.reduceToNat, Int.reduceNeg, reduceIte, Nat.reduceGT, Nat.reduceLT, Nat.reduceLeDiff, code9_0, code9_1, code9_2, code9_3, code9_4, code9_5, ty9, v_wb, hva, hvb, hvc, fill_sl3 cv cu cw]
    | ((with_reducible first | apply forkD | apply forkB | apply forkN | apply forkNP | apply forkNot) <;> intro _)
    | with_reducible_and_instances refine ixa_at (hl.mono z.inc) ds23 sz39 (by omega) hr (fun p hp => ?_)
    | with_reducible_and_instances refine lda hp ag39 sz39 ?_
    | ((with_reducible_and_instances apply unop_not); (· rfl))
    | ((with_reducible refine ⟨z.grw.lay _ _, ?_⟩); (intro _ h' zz x _); (try simp only [lay_lay, List.append_nil] at x); (try replace q0 := q0.over x); (try replace ob := ob.over x); (replace z := zz); (clear zz); rw [lay_nil h']))
  have hz8 := z.size
  refine KOpsX_alloc (by omega) (by omega) ?_
  simp -implicitDefEqProofs only [syms, symx, Nat.reduceAdd, Nat.reduceMul, Int.reduceLT, Int.reduceLE, Int.reduceAdd, Int.reduceSub, Int.reduceToNat, Int.reduceNeg, reduceIte, Nat.reduceGT, Nat.reduceLT, Nat.reduceLeDiff, code9_0, code9_1, code9_2, code9_3, code9_4, code9_5, ty9, v_wb]
  refine ok_mergeR [l, m, k] _ _ (sl_laid3 (hl.mono z.inc) (hm.mono z.inc) (hn.mono z.inc)) (by simp) (by rw [flmk]; omega) (by rw [flmk]; exact hlg) _ (fun h' wc x oc => ?_)
  rw [flmk] at oc
  have hlla := sortA_length (l ++ (m ++ k))
  replace oc := (oc.own (by omega)).sl
  ((first | ((with_reducible refine KOpsX_call ?_ ?_ ?_); (· exact (by (try simp only [lsz]); have := z.size; omega)); (· first | exact x | simpa only [lla] using x)) | skip); replace z := z.overW x (by (try simp only [lsz]); omega); (try replace q0 := q0.over x); (try replace ob := ob.over x); rw [lay_nil h'])
  have v_wc : ∀ (h : Heap) (K : Value → Heap → Prop), valE (some wc) h K = K wc h := fun _ _ => rfl
  repeat' (first
    | simp -implicitDefEqProofs only [syms, symx, Nat.reduceAdd, Nat.reduceMul, Int.reduceLT, Int.reduceLE, Int.reduceAdd, Int.reduceSub, Int.reduceToNat, Int.reduceNeg, reduceIte, Nat.reduceGT, Nat.reduceLT, Nat.reduceLeDiff, code9_0, code9_1, code9_2, code9_3, code9_4, code9_5, ty9, v_wb, v_wc]
    | ((with_reducible first | apply forkD | apply forkB | apply forkN | apply forkNP | apply forkNot) <;> intro _)
    | with_reducible_and_instances refine ixa_at (hl.mono z.inc) ds23 sz39 (by omega) hr (fun p hp => ?_)
    | with_reducible_and_instances refine lda hp ag39 sz39 ?_
    | ((with_reducible_and_instances apply unop_not); (· rfl))
    | ((with_reducible refine ⟨z.grw.lay _ _, ?_⟩); (intro _ h' zz x _); (try simp only [lay_lay, List.append_nil] at x); (try replace q0 := q0.over x); (try replace ob := ob.over x); (try replace oc := oc.over x); (replace z := zz); (clear zz); rw [lay_nil h']))
  refine ok_sameAtoms (sortA (l ++ (m ++ k))) (sortA (l ++ (m ++ k))) wb wc _ (ob.lay _ _) (oc.lay _ _) (by omega) (by omega) _ (fun h' x => ?_)
  rw [decide_eq_true rfl]
  ((first | ((with_reducible refine KOpsX_call ?_ ?_ ?_); (· exact (by (try simp only [lsz]); have := z.size; omega)); (· first | exact x | simpa only [lla] using x)) | skip); replace z := z.overW x (by (try simp only [lsz]); omega); (try replace q0 := q0.over x); (try replace ob := ob.over x); (try replace oc := oc.over x); rw [lay_nil h'])
  clear ob oc
  repeat' (first
    | simp -implicitDefEqProofs only [syms, symx, Nat.reduceAdd, Nat.reduceMul, Int.reduceLT, Int.reduceLE, Int.reduceAdd, Int.reduceSub, Int.reduceToNat, Int.reduceNeg, reduceIte, Nat.reduceGT, Nat.reduceLT, Nat.reduceLeDiff, code9_0, code9_1, code9_2, code9_3, code9_4, code9_5, ty9, hva, hvb, hvc]
    | ((with_reducible first | apply forkD | apply forkB | apply forkN | apply forkNP | apply forkNot) <;> intro _)
    | with_reducible_and_instances refine ixa_at (hl.mono z.inc) ds23 sz39 (by omega) hr (fun p hp => ?_)
    | with_reducible_and_instances refine lda hp ag39 sz39 ?_
    | ((with_reducible_and_instances apply unop_not); (· rfl))
    | ((with_reducible refine ⟨z.grw.lay _ _, ?_⟩); (intro _ h' zz x _); (try simp only [lay_lay, List.append_nil] at x); (try replace q0 := q0.over x); (replace z := zz); (clear zz); rw [lay_nil h']))
  refine ok_own l v _ ((hl.mono z.inc).lay _ _) (by omega) _ (fun o7 _ h' x o7o _ => ?_)
  have s_o7 := o7o.sl (by decide)
  clear o7o
  ((first | ((with_reducible refine KOpsX_call ?_ ?_ ?_); (· exact (by (try simp only [lsz]); have := z.size; omega)); (· first | exact x | simpa only [lla] using x)) | skip); replace z := z.overW x (by (try simp only [lsz]); omega); (try replace q0 := q0.over x); rw [lay_nil h'])
  have v_o7 : ∀ (h : Heap) (K : Value → Heap → Prop), valE (some o7) h K = K o7 h := fun _ _ => rfl
  repeat' (first
    | simp -implicitDefEqProofs only [syms, symx, Nat.reduceAdd, Nat.reduceMul, Int.reduceLT, Int.reduceLE, Int.reduceAdd, Int.reduceSub, Int.reduceToNat, Int.reduceNeg, reduceIte, Nat.reduceGT, Nat.reduceLT, Nat.reduceLeDiff, code9_0, code9_1, code9_2, code9_3, code9_4, code9_5, ty9, v_o7, hva, hvb]
    | ((with_reducible first | apply forkD | apply forkB | apply forkN | apply forkNP | apply forkNot) <;> intro _)
    | with_reducible_and_instances refine ixa_at (hl.mono z.inc) ds23 sz39 (by omega) hr (fun p hp => ?_)
    | with_reducible_and_instances refine lda hp ag39 sz39 ?_
    | ((with_reducible_and_instances apply unop_not); (· rfl))
    | ((with_reducible refine ⟨z.grw.lay _ _, ?_⟩); (intro _ h' zz x _); (try simp only [lay_lay, List.append_nil] at x); (try replace q0 := q0.over x); (replace z := zz); (clear zz); rw [lay_nil h']))
  have hfl : ((sortA l).filter (fun x => !hasA m x)).length ≤ (sortA l).length := List.length_filter_le _ _
  refine ok_minus l m o7 u _ (s_o7.lay _ _) ((hm.mono z.inc).lay _ _) (by omega) (by omega) e2 e4 _ (fun h' wb x ob => ?_)
  replace ob := ob.sl
  ((first | ((with_reducible refine KOpsX_call ?_ ?_ ?_); (· exact (by (try simp only [lsz]); have := z.size; omega)); (· first | exact x | simpa only [lla] using x)) | skip); replace z := z.overW x (by (try simp only [lsz]); omega); (try replace q0 := q0.over x); rw [lay_nil h'])
  have v_wb : ∀ (h : Heap) (K : Value → Heap → Prop), valE (some wb) h K = K wb h := fun _ _ => rfl
  repeat' (first
    | simp -implicitDefEqProofs only [syms, symx, Nat.reduceAdd, Nat.reduceMul, Int.reduceLT, Int.reduceLE, Int.reduceAdd, Int.reduceSub, Int.reduceToNat, Int.reduceNeg, reduceIte, Nat.reduceGT, Nat.reduceLT, Nat.reduceLeDiff, code9_0, code9_1, code9_2, code9_3, code9_4, code9_5, ty9, v_wb, hva, hvb]
    | ((with_reducible first | apply forkD | apply forkB | apply forkN | apply forkNP | apply forkNot) <;> intro _)
    | with_reducible_and_instances refine ixa_at (hl.mono z.inc) ds23 sz39 (by omega) hr (fun p hp => ?_)
    | with_reducible_and_instances refine lda hp ag39 sz39 ?_
    | ((with_reducible_and_instances apply unop_not); (· rfl))
    | ((with_reducible refine ⟨z.grw.lay _ _, ?_⟩); (intro _ h' zz x _); (try simp only [lay_lay, List.append_nil] at x); (try replace q0 := q0.over x); (try replace ob := ob.over x); (replace z := zz); (clear zz); rw [lay_nil h']))
  refine ok_minusR l m v u _ ((hl.mono z.inc).lay _ _) ((hm.mono z.inc).lay _ _) (by omega) (by omega) e2 e4 _ (fun h' wc A8 x oc => ?_)
  replace oc := oc.sl (by decide)
  ((first | ((with_reducible refine KOpsX_call ?_ ?_ ?_); (· exact (by (try simp only [lsz]); have := z.size; omega)); (· first | exact x | simpa only [lla] using x)) | skip); replace z := z.overW x (by (try simp only [lsz]); omega); (try replace q0 := q0.over x); (try replace ob := ob.over x); rw [lay_nil h'])
  have v_wc : ∀ (h : Heap) (K : Value → Heap → Prop), valE (some wc) h K = K wc h := fun _ _ => rfl
  repeat' (first
    | simp -implicitDefEqProofs only [syms, symx, Nat.reduceAdd, Nat.reduceMul, Int.reduceLT, Int.reduceLE, Int.reduceAdd, Int.reduceSub, Int.reduceToNat, Int.reduceNeg, reduceIte, Nat.reduceGT, Nat.reduceLT, Nat.reduceLeDiff, code9_0, code9_1, code9_2, code9_3, code9_4, code9_5, ty9, v_wb, v_wc]
    | ((with_reducible first | apply forkD | apply forkB | apply forkN | apply forkNP | apply forkNot) <;> intro _)
    | with_reducible_and_instances refine ixa_at (hl.mono z.inc) ds23 sz39 (by omega) hr (fun p hp => ?_)
    | with_reducible_and_instances refine lda hp ag39 sz39 ?_
    | ((with_reducible_and_instances apply unop_not); (· rfl))
    | ((with_reducible refine ⟨z.grw.lay _ _, ?_⟩); (intro _ h' zz x _); (try simp only [lay_lay, List.append_nil] at x); (try replace q0 := q0.over x); (try replace ob := ob.over x); (try replace oc := oc.over x); (replace z := zz); (clear zz); rw [lay_nil h']))
  generalize (sortA l).filter (fun x => !hasA m x) = mm at *
  refine ok_sameAtoms mm mm wb wc _ (ob.lay _ _) (oc.lay _ _) (by omega) (by omega) _ (fun h' x => ?_)
  rw [decide_eq_true rfl]
  ((first | ((with_reducible refine KOpsX_call ?_ ?_ ?_); (· exact (by (try simp only [lsz]); have := z.size; omega)); (· first | exact x | simpa only [lla] using x)) | skip); replace z := z.overW x (by (try simp only [lsz]); omega); (try replace q0 := q0.over x); (try replace ob := ob.over x); (try replace oc := oc.over x); rw [lay_nil h'])
  simp -implicitDefEqProofs only [syms, symx, Nat.reduceAdd, Nat.reduceMul, Int.reduceLT, Int.reduceLE, Int.reduceAdd, Int.reduceSub, Int.reduceToNat, Int.reduceNeg, reduceIte, Nat.reduceGT, Nat.reduceLT, Nat.reduceLeDiff, code9_0, code9_1, code9_2, code9_3, code9_4, code9_5, ty9, hva]
  repeat' ((first
    | ((with_reducible first | apply forkD | apply forkB | apply forkN | apply forkNP | apply forkNot) <;> intro _)
    | with_reducible_and_instances refine ixa_at (hl.mono z.inc) ds23 sz39 (by omega) hr (fun p hp => ?_)
    | with_reducible_and_instances refine lda hp ag39 sz39 ?_
    | ((with_reducible_and_instances apply unop_not); (· rfl))
    | ((with_reducible refine ⟨z.grw.lay _ _, ?_⟩); (intro _ h' zz x _); (try simp only [lay_lay, List.append_nil] at x); (try replace q0 := q0.over x); (replace z := zz); (clear zz); rw [lay_nil h'])) <;> simp -implicitDefEqProofs only [syms, symx, Nat.reduceAdd, Nat.reduceMul, Int.reduceLT, Int.reduceLE, Int.reduceAdd, Int.reduceSub, Int.reduceToNat, Int.reduceNeg, reduceIte, Nat.reduceGT, Nat.reduceLT, Nat.reduceLeDiff, code9_0, code9_1, code9_2, code9_3, code9_4, code9_5, ty9])
  exact hk _ (z.upW _ _ (by omega))
end Go.Proofs.Ytompindebndddaa
namespace Go.Proofs.Ytompindebndddaa
open Go.ChangeShapes Go.WideShapes Go.ChangeAt Go.RowKit Go.Am
theorem orderCalls_own : ownKnob Try.prog.godebug = none := by kernel_rfl
theorem orderCalls_laidOut : laidOutB Try.prog = true := by kernel_rfl
set_option maxRecDepth 100000 in
theorem orderCalls_ok (h : Heap) (args : List Value) (_ : h.low = h.size) (hs : ArgsShp Try.prog h 8 Try.f9.params.toList args) : Ok Try.prog tab ov 9 args h fun v h' => v = .bool true ∧ Ext h h' := by
  have hp : Try.f9.params.toList = [23, 23, 23, 39] := by kernel_rfl
  have hs2 : ArgsShp Try.prog h 8 [23, 23, 23, 39] args := argsShp_eq hp hs
  clear hs
  obtain ⟨x0, r0, rfl, h0, hs2⟩ := argsShp_cons hs2
  obtain ⟨x1, r1, rfl, h1, hs2⟩ := argsShp_cons hs2
  obtain ⟨x2, r2, rfl, h2, hs2⟩ := argsShp_cons hs2
  obtain ⟨x3, r3, rfl, h3, hs2⟩ := argsShp_cons hs2
  obtain rfl := argsShp_nil hs2
  obtain ⟨d0, f0⟩ := arg_atoms h0
  obtain ⟨d1, f1⟩ := arg_atoms h1
  obtain ⟨d2, f2⟩ := arg_atoms h2
  obtain ⟨d3, rfl⟩ := arg_atom h3
  exact ok_orderCalls d0 d1 d2 d3 x0 x1 x2 h f0 f1 f2 _ (fun h' x => ⟨rfl, x⟩)
set_option maxRecDepth 100000 in
theorem orderCalls_lifted (os : Os) (started : os.Started) (H : Type) (enc : TypeId × Value → H) :
    ReturnsInHanded {} Try.checked os 9 .any (Rows.orderCallsSpec.pre6 enc Try.prog Try.f9 Rows.orderCallsRow.domain false) (Rows.orderCallsSpec.post enc Try.prog Try.f9 Rows.orderCallsRow.apart Rows.orderCallsRow.fresh Rows.orderCallsRow.handsOn Rows.orderCallsRow.again) := by
  refine returnsInHanded_of_change_shaped (C := Try.checked) orderCalls_own started (by kernel_rfl) Try.func9
    (ChangeSpec.witness6 (enc := enc) (C := Try.checked) false ⟨#[], #[.slice none 0 0, .slice none 0 0, .slice none 0 0, .agg ⟨noAtomD.cells⟩], []⟩ 12 (by kernel_rfl) (by kernel_rfl) (by kernel_rfl) (by kernel_rfl)) ?_
  intro W base args ds gs before hval hW _ _ hsh _
  exact law_contract (n := 8) (boolT := 4) mixed tab_fits rfl ov_ok rfl (of_decide_eq_true (by kernel_rfl)) orderCalls_laidOut rfl (by kernel_rfl) (by kernel_rfl) Try.underlying4 (by kernel_rfl) (by kernel_rfl)
    (fun ds hd => by
      have hp : Try.f9.params.size = 4 := by kernel_rfl
      rw [hp] at hd
      match ds, hd with
      | [_, _, _, _], _ => rfl)
    orderCalls_ok hval hW hsh
theorem orderCalls_holds : Rows.OrderCallsSaid :=
  OpenClaim.holds_of_wide 9 Try.f9 rfl rfl rfl rfl rfl rfl rfl ⟨rfl, rfl, rfl, rfl, rfl⟩ rfl rfl rfl rfl rfl (by kernel_rfl) Try.func9 (by kernel_rfl)
    (of_decide_eq_true (by kernel_rfl)) (by unfold Func.isWrapper; first | (rw [if_pos (by decide +kernel)]; kernel_rfl) | (rw [if_neg (by decide +kernel)]; exact ⟨rfl, rfl⟩))
    (fun os started H enc _ => orderCalls_lifted os started H enc)
#print axioms orderCalls_holds
end Go.Proofs.Ytompindebndddaa
