/- Slices just laid. No condition. -/
import Derived.Test.YtompindebndddaaG33
import Derived.Test.YtompindebndddaaG36
import Derived.Test.YtompindebndddaaG37
import Derived.Test.YtompindebndddaaG38
import Derived.Test.YtompindebndddaaZK7
import Derived.Test.YtompindebndddaaG12
import Derived.Test.YtompindebndddaaRows
namespace Go.Am
set_option linter.unusedVariables false
theorem sl_laid2 {h : Heap} {v u : Value} {a b : List AtomD} {t : TypeId} {ro : Bool} {w : Nat} (ha : Sl Rep.atom h v a) (hb : Sl Rep.atom h u b) : Sl Rep.atoms (h.lay [.row [v, u] t ro] w) (.slice (some ⟨h.size + 0, 0, none⟩) 2 2) [a, b] := by
  refine .inr ⟨h.size + 0, 0, 2, [v, u], t, ro, rfl, (by show 2 ≤ maxLen; decide), .inl ⟨by decide, Nat.le_refl _⟩, by rw [lay_size]; simp, by rw [lay_get]; rfl, fun i x hx => ?_⟩
  match i, hx with
  | 0, hx => cases hx; exact ⟨[v], rfl, v, rfl, ha.lay _ _⟩
  | 1, hx => cases hx; exact ⟨[u], rfl, u, rfl, hb.lay _ _⟩
  | i + 2, hx => simp at hx
theorem sl_laid3 {h : Heap} {v u q : Value} {a b c : List AtomD} {t : TypeId} {ro : Bool} {w : Nat} (ha : Sl Rep.atom h v a) (hb : Sl Rep.atom h u b) (hc : Sl Rep.atom h q c) : Sl Rep.atoms (h.lay [.row [v, u, q] t ro] w) (.slice (some ⟨h.size + 0, 0, none⟩) 3 3) [a, b, c] := by
  refine .inr ⟨h.size + 0, 0, 3, [v, u, q], t, ro, rfl, (by show 3 ≤ maxLen; decide), .inl ⟨by decide, Nat.le_refl _⟩, by rw [lay_size]; simp, by rw [lay_get]; rfl, fun i x hx => ?_⟩
  match i, hx with
  | 0, hx => cases hx; exact ⟨[v], rfl, v, rfl, ha.lay _ _⟩
  | 1, hx => cases hx; exact ⟨[u], rfl, u, rfl, hb.lay _ _⟩
  | 2, hx => cases hx; exact ⟨[q], rfl, q, rfl, hc.lay _ _⟩
  | i + 3, hx => simp at hx
theorem cells_one {v : Value} (hv : v.cells.toList = [v]) : v.cells.size = 1 := by rw [← Array.length_toList, hv]; rfl
theorem fill_sl2 {v u z0 z1 : Value} (hv : v.cells.toList = [v]) (hu : u.cells.toList = [u]) : fillA (fun i => some (i * 1, 1)) [z0, z1] [(0, v), (1, u)] = some [v, u] := by
  simp [fillA, hv, hu, cells_one hv, cells_one hu, splice]
theorem fill_sl3 {v u w z0 z1 z2 : Value} (hv : v.cells.toList = [v]) (hu : u.cells.toList = [u]) (hw : w.cells.toList = [w]) : fillA (fun i => some (i * 1, 1)) [z0, z1, z2] [(0, v), (1, u), (2, w)] = some [v, u, w] := by
  simp [fillA, hv, hu, hw, cells_one hv, cells_one hu, cells_one hw, splice]
end Go.Am
namespace Go.Proofs.Ytompindebndddaa
open Go.Am
set_option linter.unusedSimpArgs false
set_option linter.unusedVariables false
set_option maxRecDepth 100000
set_option maxHeartbeats 0
theorem take_snocA {l : List AtomD} {i : Nat} (hi : i < l.length) {P : AtomD → Prop} (h : ∀ x ∈ l.take i, P x) (hp : P (l.getD i noAtomD)) : ∀ x ∈ l.take (i + 1), P x := take_all (i := i) (getD_at hi) h hp
theorem ok_orderMerges (l m k : List AtomD) (v u w : Value) (h : Heap) (hl : Sl Rep.atom h v l) (hm : Sl Rep.atom h u m) (hn : Sl Rep.atom h w k) (K : Value → Heap → Prop)
    (hk : ∀ h', Ext h h' → K (.bool true) h') : Ok Try.prog tab ov 5 [v, u, w] h K := by
  rw [lay_nil h]
  have z := Ext.refl h
  have hva : ∀ (h : Heap) (K : Value → Heap → Prop), valE (some v) h K = K v h := fun _ _ => rfl
  have hvb : ∀ (h : Heap) (K : Value → Heap → Prop), valE (some u) h K = K u h := fun _ _ => rfl
  have hvc : ∀ (h : Heap) (K : Value → Heap → Prop), valE (some w) h K = K w h := fun _ _ => rfl
  refine Ok.into rfl tab_fn5 body5 rfl (m := 121) rfl ?_
  simp -implicitDefEqProofs only [syms, symx, Nat.reduceAdd, Nat.reduceMul, Int.reduceLT, Int.reduceLE, Int.reduceAdd, Int.reduceSub, Int.reduceToNat, Int.reduceNeg, reduceIte, Nat.reduceGT, Nat.reduceLT, Nat.reduceLeDiff, code5_0, code5_1, code5_2, code5_3, code5_4, code5_5, ty5, hva, hvb, hvc]
  refine Ok.over (g := trueA) rfl rfl ?_
  simp -implicitDefEqProofs only [syms, symx, Nat.reduceAdd, Nat.reduceMul, Int.reduceLT, Int.reduceLE, Int.reduceAdd, Int.reduceSub, Int.reduceToNat, Int.reduceNeg, reduceIte, Nat.reduceGT, Nat.reduceLT, Nat.reduceLeDiff, code5_0, code5_1, code5_2, code5_3, code5_4, code5_5, ty5, hva, hvb, hvc]
  repeat' ((first
    | ((with_reducible first | apply forkD | apply forkB | apply forkN | apply forkNP | apply forkNot) <;> intro _)
    | ((with_reducible_and_instances apply unop_not); (· rfl))
    | ((with_reducible refine ⟨z.grw.lay _ _, ?_⟩); (intro _ h' zz x _); (try simp only [lay_lay, List.append_nil] at x); (replace z := zz); (clear zz); rw [lay_nil h'])) <;> simp -implicitDefEqProofs only [syms, symx, Nat.reduceAdd, Nat.reduceMul, Int.reduceLT, Int.reduceLE, Int.reduceAdd, Int.reduceSub, Int.reduceToNat, Int.reduceNeg, reduceIte, Nat.reduceGT, Nat.reduceLT, Nat.reduceLeDiff, code5_0, code5_1, code5_2, code5_3, code5_4, code5_5, ty5, hva, hvb, hvc])
  refine ok_lights l v 30 _ ((hl.mono z.inc).lay _ _) _ (fun e1 e2 h' x => ?_) (fun h' x => ?_)
  rotate_left
  · ((first | ((with_reducible refine KOpsX_call ?_ ?_ ?_); (· exact (by (try simp only [lay_size, List.length_cons, List.length_nil]); have := z.size; omega)); (· first | exact x | simpa only [lay_lay, lay_size, List.append_nil, List.length_cons, List.length_nil, Nat.add_zero] using x)) | skip); replace z := z.overW x (by (try simp only [lay_size, List.length_cons, List.length_nil]); omega); rw [lay_nil h'])
    simp -implicitDefEqProofs only [syms, symx, Nat.reduceAdd, Nat.reduceMul, Int.reduceLT, Int.reduceLE, Int.reduceAdd, Int.reduceSub, Int.reduceToNat, Int.reduceNeg, reduceIte, Nat.reduceGT, Nat.reduceLT, Nat.reduceLeDiff, code5_0, code5_1, code5_2, code5_3, code5_4, code5_5, ty5]
    repeat' ((first
      | ((with_reducible first | apply forkD | apply forkB | apply forkN | apply forkNP | apply forkNot) <;> intro _)
      | ((with_reducible_and_instances apply unop_not); (· rfl))
      | ((with_reducible refine ⟨z.grw.lay _ _, ?_⟩); (intro _ h' zz x _); (try simp only [lay_lay, List.append_nil] at x); (replace z := zz); (clear zz); rw [lay_nil h'])) <;> simp -implicitDefEqProofs only [syms, symx, Nat.reduceAdd, Nat.reduceMul, Int.reduceLT, Int.reduceLE, Int.reduceAdd, Int.reduceSub, Int.reduceToNat, Int.reduceNeg, reduceIte, Nat.reduceGT, Nat.reduceLT, Nat.reduceLeDiff, code5_0, code5_1, code5_2, code5_3, code5_4, code5_5, ty5])
    exact hk _ (z.upW _ _ (by omega))
  ((first | ((with_reducible refine KOpsX_call ?_ ?_ ?_); (· exact (by (try simp only [lay_size, List.length_cons, List.length_nil]); have := z.size; omega)); (· first | exact x | simpa only [lay_lay, lay_size, List.append_nil, List.length_cons, List.length_nil, Nat.add_zero] using x)) | skip); replace z := z.overW x (by (try simp only [lay_size, List.length_cons, List.length_nil]); omega); rw [lay_nil h'])
  simp -implicitDefEqProofs only [syms, symx, Nat.reduceAdd, Nat.reduceMul, Int.reduceLT, Int.reduceLE, Int.reduceAdd, Int.reduceSub, Int.reduceToNat, Int.reduceNeg, reduceIte, Nat.reduceGT, Nat.reduceLT, Nat.reduceLeDiff, code5_0, code5_1, code5_2, code5_3, code5_4, code5_5, ty5, hva, hvb, hvc]
  repeat' ((first
    | ((with_reducible first | apply forkD | apply forkB | apply forkN | apply forkNP | apply forkNot) <;> intro _)
    | ((with_reducible_and_instances apply unop_not); (· rfl))
    | ((with_reducible refine ⟨z.grw.lay _ _, ?_⟩); (intro _ h' zz x _); (try simp only [lay_lay, List.append_nil] at x); (replace z := zz); (clear zz); rw [lay_nil h'])) <;> simp -implicitDefEqProofs only [syms, symx, Nat.reduceAdd, Nat.reduceMul, Int.reduceLT, Int.reduceLE, Int.reduceAdd, Int.reduceSub, Int.reduceToNat, Int.reduceNeg, reduceIte, Nat.reduceGT, Nat.reduceLT, Nat.reduceLeDiff, code5_0, code5_1, code5_2, code5_3, code5_4, code5_5, ty5, hva, hvb, hvc])
  refine ok_lights m u 30 _ ((hm.mono z.inc).lay _ _) _ (fun e3 e4 h' x => ?_) (fun h' x => ?_)
  rotate_left
  · ((first | ((with_reducible refine KOpsX_call ?_ ?_ ?_); (· exact (by (try simp only [lay_size, List.length_cons, List.length_nil]); have := z.size; omega)); (· first | exact x | simpa only [lay_lay, lay_size, List.append_nil, List.length_cons, List.length_nil, Nat.add_zero] using x)) | skip); replace z := z.overW x (by (try simp only [lay_size, List.length_cons, List.length_nil]); omega); rw [lay_nil h'])
    simp -implicitDefEqProofs only [syms, symx, Nat.reduceAdd, Nat.reduceMul, Int.reduceLT, Int.reduceLE, Int.reduceAdd, Int.reduceSub, Int.reduceToNat, Int.reduceNeg, reduceIte, Nat.reduceGT, Nat.reduceLT, Nat.reduceLeDiff, code5_0, code5_1, code5_2, code5_3, code5_4, code5_5, ty5]
    repeat' ((first
      | ((with_reducible first | apply forkD | apply forkB | apply forkN | apply forkNP | apply forkNot) <;> intro _)
      | ((with_reducible_and_instances apply unop_not); (· rfl))
      | ((with_reducible refine ⟨z.grw.lay _ _, ?_⟩); (intro _ h' zz x _); (try simp only [lay_lay, List.append_nil] at x); (replace z := zz); (clear zz); rw [lay_nil h'])) <;> simp -implicitDefEqProofs only [syms, symx, Nat.reduceAdd, Nat.reduceMul, Int.reduceLT, Int.reduceLE, Int.reduceAdd, Int.reduceSub, Int.reduceToNat, Int.reduceNeg, reduceIte, Nat.reduceGT, Nat.reduceLT, Nat.reduceLeDiff, code5_0, code5_1, code5_2, code5_3, code5_4, code5_5, ty5])
    exact hk _ (z.upW _ _ (by omega))
  ((first | ((with_reducible refine KOpsX_call ?_ ?_ ?_); (· exact (by (try simp only [lay_size, List.length_cons, List.length_nil]); have := z.size; omega)); (· first | exact x | simpa only [lay_lay, lay_size, List.append_nil, List.length_cons, List.length_nil, Nat.add_zero] using x)) | skip); replace z := z.overW x (by (try simp only [lay_size, List.length_cons, List.length_nil]); omega); rw [lay_nil h'])
  simp -implicitDefEqProofs only [syms, symx, Nat.reduceAdd, Nat.reduceMul, Int.reduceLT, Int.reduceLE, Int.reduceAdd, Int.reduceSub, Int.reduceToNat, Int.reduceNeg, reduceIte, Nat.reduceGT, Nat.reduceLT, Nat.reduceLeDiff, code5_0, code5_1, code5_2, code5_3, code5_4, code5_5, ty5, hva, hvb, hvc]
  repeat' ((first
    | ((with_reducible first | apply forkD | apply forkB | apply forkN | apply forkNP | apply forkNot) <;> intro _)
    | ((with_reducible_and_instances apply unop_not); (· rfl))
    | ((with_reducible refine ⟨z.grw.lay _ _, ?_⟩); (intro _ h' zz x _); (try simp only [lay_lay, List.append_nil] at x); (replace z := zz); (clear zz); rw [lay_nil h'])) <;> simp -implicitDefEqProofs only [syms, symx, Nat.reduceAdd, Nat.reduceMul, Int.reduceLT, Int.reduceLE, Int.reduceAdd, Int.reduceSub, Int.reduceToNat, Int.reduceNeg, reduceIte, Nat.reduceGT, Nat.reduceLT, Nat.reduceLeDiff, code5_0, code5_1, code5_2, code5_3, code5_4, code5_5, ty5, hva, hvb, hvc])
  refine ok_lights k w 30 _ ((hn.mono z.inc).lay _ _) _ (fun e5 e6 h' x => ?_) (fun h' x => ?_)
  rotate_left
  · ((first | ((with_reducible refine KOpsX_call ?_ ?_ ?_); (· exact (by (try simp only [lay_size, List.length_cons, List.length_nil]); have := z.size; omega)); (· first | exact x | simpa only [lay_lay, lay_size, List.append_nil, List.length_cons, List.length_nil, Nat.add_zero] using x)) | skip); replace z := z.overW x (by (try simp only [lay_size, List.length_cons, List.length_nil]); omega); rw [lay_nil h'])
    simp -implicitDefEqProofs only [syms, symx, Nat.reduceAdd, Nat.reduceMul, Int.reduceLT, Int.reduceLE, Int.reduceAdd, Int.reduceSub, Int.reduceToNat, Int.reduceNeg, reduceIte, Nat.reduceGT, Nat.reduceLT, Nat.reduceLeDiff, code5_0, code5_1, code5_2, code5_3, code5_4, code5_5, ty5]
    repeat' ((first
      | ((with_reducible first | apply forkD | apply forkB | apply forkN | apply forkNP | apply forkNot) <;> intro _)
      | ((with_reducible_and_instances apply unop_not); (· rfl))
      | ((with_reducible refine ⟨z.grw.lay _ _, ?_⟩); (intro _ h' zz x _); (try simp only [lay_lay, List.append_nil] at x); (replace z := zz); (clear zz); rw [lay_nil h'])) <;> simp -implicitDefEqProofs only [syms, symx, Nat.reduceAdd, Nat.reduceMul, Int.reduceLT, Int.reduceLE, Int.reduceAdd, Int.reduceSub, Int.reduceToNat, Int.reduceNeg, reduceIte, Nat.reduceGT, Nat.reduceLT, Nat.reduceLeDiff, code5_0, code5_1, code5_2, code5_3, code5_4, code5_5, ty5])
    exact hk _ (z.upW _ _ (by omega))
  ((first | ((with_reducible refine KOpsX_call ?_ ?_ ?_); (· exact (by (try simp only [lay_size, List.length_cons, List.length_nil]); have := z.size; omega)); (· first | exact x | simpa only [lay_lay, lay_size, List.append_nil, List.length_cons, List.length_nil, Nat.add_zero] using x)) | skip); replace z := z.overW x (by (try simp only [lay_size, List.length_cons, List.length_nil]); omega); rw [lay_nil h'])
  simp -implicitDefEqProofs only [syms, symx, Nat.reduceAdd, Nat.reduceMul, Int.reduceLT, Int.reduceLE, Int.reduceAdd, Int.reduceSub, Int.reduceToNat, Int.reduceNeg, reduceIte, Nat.reduceGT, Nat.reduceLT, Nat.reduceLeDiff, code5_0, code5_1, code5_2, code5_3, code5_4, code5_5, ty5, hva, hvb, hvc]
  repeat' ((first
    | ((with_reducible first | apply forkD | apply forkB | apply forkN | apply forkNP | apply forkNot) <;> intro _)
    | ((with_reducible_and_instances apply unop_not); (· rfl))
    | ((with_reducible refine ⟨z.grw.lay _ _, ?_⟩); (intro _ h' zz x _); (try simp only [lay_lay, List.append_nil] at x); (replace z := zz); (clear zz); rw [lay_nil h'])) <;> simp -implicitDefEqProofs only [syms, symx, Nat.reduceAdd, Nat.reduceMul, Int.reduceLT, Int.reduceLE, Int.reduceAdd, Int.reduceSub, Int.reduceToNat, Int.reduceNeg, reduceIte, Nat.reduceGT, Nat.reduceLT, Nat.reduceLeDiff, code5_0, code5_1, code5_2, code5_3, code5_4, code5_5, ty5, hva, hvb, hvc])
  have hz3 := z.size
  refine ok_own l v _ ((hl.mono z.inc).lay _ _) (by omega) _ (fun w4 A4 h' x o4 hA4 => ?_)
  ((first | ((with_reducible refine KOpsX_call ?_ ?_ ?_); (· exact (by (try simp only [lay_size, List.length_cons, List.length_nil]); have := z.size; omega)); (· first | exact x | simpa only [lay_lay, lay_size, List.append_nil, List.length_cons, List.length_nil, Nat.add_zero] using x)) | skip); replace z := z.overW x (by (try simp only [lay_size, List.length_cons, List.length_nil]); omega); rw [lay_nil h'])
  have hv4 : ∀ (h : Heap) (K : Value → Heap → Prop), valE (some w4) h K = K w4 h := fun _ _ => rfl
  simp -implicitDefEqProofs only [syms, symx, Nat.reduceAdd, Nat.reduceMul, Int.reduceLT, Int.reduceLE, Int.reduceAdd, Int.reduceSub, Int.reduceToNat, Int.reduceNeg, reduceIte, Nat.reduceGT, Nat.reduceLT, Nat.reduceLeDiff, code5_0, code5_1, code5_2, code5_3, code5_4, code5_5, ty5, hv4, hva, hvb, hvc, w_append, sty23]
  obtain ⟨news1, hs1, hsr1⟩ := src_sl (A := A4) (r := Rep.atom) (by decide) ((hm.mono z.inc).lay [] h'.low) (fun cs y hr => hr)
  have hf4 := o4.fresh
  have hz := z.size
  have hx := x.size
  have hsq : (Heap.lay h' [] h'.low).size = h'.size := by rw [lay_size]; rfl
  refine ap_rule (r := Rep.atom) ds23 tab_info39 rfl (by decide) (by rw [lay_size] at hx ⊢; omega) o4 hs1 hsr1 (by omega) (by omega) (fun w5 h5 A5 o5 c5 hA5 => ?_)
  rw [lay_size] at hf4
  have hc5 := c5.size
  rw [hsq] at hc5
  have hx5 := Nat.le_trans hx hc5
  replace z := (z.upW _ _ (by omega)).step c5 (by omega)
  clear hs1 hsr1 news1 hz hx hsq x o4
  rw [lay_nil h5]
  have hv5 : ∀ (h : Heap) (K : Value → Heap → Prop), valE (some w5) h K = K w5 h := fun _ _ => rfl
  simp -implicitDefEqProofs only [syms, symx, Nat.reduceAdd, Nat.reduceMul, Int.reduceLT, Int.reduceLE, Int.reduceAdd, Int.reduceSub, Int.reduceToNat, Int.reduceNeg, reduceIte, Nat.reduceGT, Nat.reduceLT, Nat.reduceLeDiff, code5_0, code5_1, code5_2, code5_3, code5_4, code5_5, ty5, hv5, hva, hvb, hvc, w_append, sty23]
  obtain ⟨news2, hs2, hsr2⟩ := src_sl (A := A5) (r := Rep.atom) (by decide) ((hn.mono z.inc).lay [] h5.low) (fun cs y hr => hr)
  have hf5 := o5.fresh
  have hz := z.size
  have hll : (l ++ m).length = l.length + m.length := List.length_append
  refine ap_rule (r := Rep.atom) ds23 tab_info39 rfl (by decide) hx5 o5 hs2 hsr2 (by omega) (by omega) (fun w6 h6 A6 o6 c6 hA6 => ?_)
  rw [lay_size] at hf5
  replace z := (z.upW _ _ (by omega)).step c6 (by omega)
  have s6 := o6.sl (by decide)
  clear hs2 hsr2 news2 hz hf5 hf4 hz3 hc5 hx5 o5 o6 c5 c6 hA5 hA6
  rw [lay_nil h6]
  have hv6 : ∀ (h : Heap) (K : Value → Heap → Prop), valE (some w6) h K = K w6 h := fun _ _ => rfl
  simp -implicitDefEqProofs only [syms, symx, Nat.reduceAdd, Nat.reduceMul, Int.reduceLT, Int.reduceLE, Int.reduceAdd, Int.reduceSub, Int.reduceToNat, Int.reduceNeg, reduceIte, Nat.reduceGT, Nat.reduceLT, Nat.reduceLeDiff, code5_0, code5_1, code5_2, code5_3, code5_4, code5_5, ty5, hv6, hva, hvb, hvc]
  repeat' ((first
    | ((with_reducible first | apply forkD | apply forkB | apply forkN | apply forkNP | apply forkNot) <;> intro _)
    | ((with_reducible_and_instances apply unop_not); (· rfl))
    | ((with_reducible refine ⟨z.grw.lay _ _, ?_⟩); (intro _ h' zz x _); (try simp only [lay_lay, List.append_nil] at x); (replace z := zz); (clear zz); rw [lay_nil h'])) <;> simp -implicitDefEqProofs only [syms, symx, Nat.reduceAdd, Nat.reduceMul, Int.reduceLT, Int.reduceLE, Int.reduceAdd, Int.reduceSub, Int.reduceToNat, Int.reduceNeg, reduceIte, Nat.reduceGT, Nat.reduceLT, Nat.reduceLeDiff, code5_0, code5_1, code5_2, code5_3, code5_4, code5_5, ty5, hv6, hva, hvb, hvc])
  have hlen : (l ++ m ++ k).length ≤ 90 := by rw [List.length_append, hll]; omega
  have hlight : ∀ x ∈ l ++ m ++ k, x.light = true := fun x hx => by
    rcases List.mem_append.1 hx with hx | hx
    · rcases List.mem_append.1 hx with hx | hx
      · exact e2 x hx
      · exact e4 x hx
    · exact e6 x hx
  obtain ⟨I1, hI1⟩ : ∃ I : Nat → Env → Heap → Prop, I = (fun n e h' => ∃ (i : Nat) (h1 : Heap), h' = h1.lay [] h1.low ∧ Ext h h1 ∧ (n = (l ++ m ++ k).length - i ∧ i ≤ (l ++ m ++ k).length ∧ (∀ x ∈ (l ++ m ++ k).take i, ValidD x) ∧ Sl Rep.atom h1 w6 (l ++ m ++ k)) ∧ ∃ J : Nat → Value, e = (v :: u :: w :: J 3 :: J 4 :: J 5 :: J 6 :: w6 :: .int .i64 i :: J 9 :: J 10 :: J 11 :: J 12 :: J 13 :: J 14 :: J 15 :: J 16 :: J 17 :: J 18 :: J 19 :: J 20 :: J 21 :: J 22 :: J 23 :: J 24 :: J 25 :: J 26 :: J 27 :: J 28 :: J 29 :: J 30 :: J 31 :: J 32 :: J 33 :: J 34 :: J 35 :: J 36 :: J 37 :: J 38 :: J 39 :: J 40 :: J 41 :: J 42 :: J 43 :: J 44 :: J 45 :: J 46 :: J 47 :: J 48 :: J 49 :: J 50 :: J 51 :: J 52 :: J 53 :: J 54 :: J 55 :: J 56 :: J 57 :: J 58 :: J 59 :: J 60 :: J 61 :: J 62 :: J 63 :: J 64 :: J 65 :: J 66 :: J 67 :: J 68 :: J 69 :: J 70 :: J 71 :: J 72 :: J 73 :: J 74 :: J 75 :: J 76 :: J 77 :: J 78 :: J 79 :: J 80 :: J 81 :: J 82 :: J 83 :: J 84 :: J 85 :: J 86 :: J 87 :: J 88 :: J 89 :: J 90 :: J 91 :: J 92 :: J 93 :: J 94 :: J 95 :: J 96 :: J 97 :: J 98 :: J 99 :: J 100 :: J 101 :: J 102 :: J 103 :: J 104 :: J 105 :: J 106 :: J 107 :: J 108 :: J 109 :: J 110 :: J 111 :: J 112 :: J 113 :: J 114 :: J 115 :: J 116 :: J 117 :: J 118 :: J 119 :: J 120 :: J 121 :: J 122 :: J 123 :: [])) := ⟨_, rfl⟩
  refine W_loopN I1 _ (by rw [hI1]; exact ⟨0, _, rfl, z, ⟨rfl, by omega, by simp, s6⟩, junk (by kernel_rfl)⟩) ?_
  intro n e h' hin
  rw [hI1] at hin
  obtain ⟨i, h1', rfl, z, hinv, J, rfl⟩ := hin
  obtain ⟨rfl, hi, hval, s6⟩ := hinv
  generalize hall : l ++ m ++ k = all at *
  have hwi : IntKind.i64.wrap ((i : Int) + 1) = ((i + 1 : Nat) : Int) := by rw [wrap_i64 (by omega) (by omega)]; omega
  have hln := fun (hh : Heap) => s6.lenA ds23 hh
  simp -implicitDefEqProofs only [syms, symx, Nat.reduceAdd, Nat.reduceMul, Int.reduceLT, Int.reduceLE, Int.reduceAdd, Int.reduceSub, Int.reduceToNat, Int.reduceNeg, reduceIte, Nat.reduceGT, Nat.reduceLT, Nat.reduceLeDiff, code5_0, code5_1, code5_2, code5_3, code5_4, code5_5, ty5, hv6, hln]
  refine forkD (fun hlt1 => ?_) (fun hlt1 => ?_)
  · have hr : all[(i : Int).toNat]? = some (all.getD i noAtomD) := getD_at (by omega)
    simp -implicitDefEqProofs only [syms, symx, Nat.reduceAdd, Nat.reduceMul, Int.reduceLT, Int.reduceLE, Int.reduceAdd, Int.reduceSub, Int.reduceToNat, Int.reduceNeg, reduceIte, Nat.reduceGT, Nat.reduceLT, Nat.reduceLeDiff, code5_0, code5_1, code5_2, code5_3, code5_4, code5_5, ty5, hv6]
    repeat' ((first
      | ((with_reducible first | apply forkD | apply forkB | apply forkN | apply forkNP | apply forkNot) <;> intro _)
      | with_reducible_and_instances refine ixa_at s6 ds23 sz39 (by omega) hr (fun p hp => ?_)
      | with_reducible_and_instances refine lda hp ag39 sz39 ?_
      | ((with_reducible_and_instances apply unop_not); (· rfl))
      | ((with_reducible refine ⟨z.grw.lay _ _, ?_⟩); (intro _ h' zz x _); (try simp only [lay_lay, List.append_nil] at x); (replace z := zz); (clear zz); rw [lay_nil h'])) <;> simp -implicitDefEqProofs only [syms, symx, Nat.reduceAdd, Nat.reduceMul, Int.reduceLT, Int.reduceLE, Int.reduceAdd, Int.reduceSub, Int.reduceToNat, Int.reduceNeg, reduceIte, Nat.reduceGT, Nat.reduceLT, Nat.reduceLeDiff, code5_0, code5_1, code5_2, code5_3, code5_4, code5_5, ty5, hv6])
    refine ok_validA _ _ _ (fun hv h' x => ?_) (fun c h' hc x => ?_)
    · replace s6 := s6.over x
      ((first | ((with_reducible refine KOpsX_call ?_ ?_ ?_); (· exact (by (try simp only [lay_size, List.length_cons, List.length_nil]); have := z.size; omega)); (· first | exact x | simpa only [lay_lay, lay_size, List.append_nil, List.length_cons, List.length_nil, Nat.add_zero] using x)) | skip); replace z := z.overW x (by (try simp only [lay_size, List.length_cons, List.length_nil]); omega); rw [lay_nil h'])
      simp -implicitDefEqProofs only [syms, symx, Nat.reduceAdd, Nat.reduceMul, Int.reduceLT, Int.reduceLE, Int.reduceAdd, Int.reduceSub, Int.reduceToNat, Int.reduceNeg, reduceIte, Nat.reduceGT, Nat.reduceLT, Nat.reduceLeDiff, code5_0, code5_1, code5_2, code5_3, code5_4, code5_5, ty5]
      refine forkN (fun hh => absurd rfl hh) (fun _ => ?_)
      simp -implicitDefEqProofs only [syms, symx, Nat.reduceAdd, Nat.reduceMul, Int.reduceLT, Int.reduceLE, Int.reduceAdd, Int.reduceSub, Int.reduceToNat, Int.reduceNeg, reduceIte, Nat.reduceGT, Nat.reduceLT, Nat.reduceLeDiff, code5_0, code5_1, code5_2, code5_3, code5_4, code5_5, ty5]
      repeat' ((first
        | ((with_reducible first | apply forkD | apply forkB | apply forkN | apply forkNP | apply forkNot) <;> intro _)
        | with_reducible_and_instances refine ixa_at s6 ds23 sz39 (by omega) hr (fun p hp => ?_)
        | with_reducible_and_instances refine lda hp ag39 sz39 ?_
        | ((with_reducible_and_instances apply unop_not); (· rfl))
        | ((with_reducible refine ⟨z.grw.lay _ _, ?_⟩); (intro _ h' zz x _); (try simp only [lay_lay, List.append_nil] at x); (replace z := zz); (clear zz); rw [lay_nil h'])) <;> simp -implicitDefEqProofs only [syms, symx, Nat.reduceAdd, Nat.reduceMul, Int.reduceLT, Int.reduceLE, Int.reduceAdd, Int.reduceSub, Int.reduceToNat, Int.reduceNeg, reduceIte, Nat.reduceGT, Nat.reduceLT, Nat.reduceLeDiff, code5_0, code5_1, code5_2, code5_3, code5_4, code5_5, ty5])
      rw [hwi]
      (rw [hI1]; with_reducible refine loopN_normal (m := _) ?_ ⟨i + 1, _, rfl, z, ⟨rfl, by omega, take_snocA (by omega) hval hv, s6⟩, junk (by kernel_rfl)⟩; omega)
    · ((first | ((with_reducible refine KOpsX_call ?_ ?_ ?_); (· exact (by (try simp only [lay_size, List.length_cons, List.length_nil]); have := z.size; omega)); (· first | exact x | simpa only [lay_lay, lay_size, List.append_nil, List.length_cons, List.length_nil, Nat.add_zero] using x)) | skip); replace z := z.overW x (by (try simp only [lay_size, List.length_cons, List.length_nil]); omega); rw [lay_nil h'])
      simp -implicitDefEqProofs only [syms, symx, Nat.reduceAdd, Nat.reduceMul, Int.reduceLT, Int.reduceLE, Int.reduceAdd, Int.reduceSub, Int.reduceToNat, Int.reduceNeg, reduceIte, Nat.reduceGT, Nat.reduceLT, Nat.reduceLeDiff, code5_0, code5_1, code5_2, code5_3, code5_4, code5_5, ty5]
      refine forkN (fun _ => ?_) (fun hh => absurd hh hc)
      simp -implicitDefEqProofs only [syms, symx, Nat.reduceAdd, Nat.reduceMul, Int.reduceLT, Int.reduceLE, Int.reduceAdd, Int.reduceSub, Int.reduceToNat, Int.reduceNeg, reduceIte, Nat.reduceGT, Nat.reduceLT, Nat.reduceLeDiff, code5_0, code5_1, code5_2, code5_3, code5_4, code5_5, ty5]
      repeat' ((first
        | ((with_reducible first | apply forkD | apply forkB | apply forkN | apply forkNP | apply forkNot) <;> intro _)
        | with_reducible_and_instances refine ixa_at s6 ds23 sz39 (by omega) hr (fun p hp => ?_)
        | with_reducible_and_instances refine lda hp ag39 sz39 ?_
        | ((with_reducible_and_instances apply unop_not); (· rfl))
        | ((with_reducible refine ⟨z.grw.lay _ _, ?_⟩); (intro _ h' zz x _); (try simp only [lay_lay, List.append_nil] at x); (replace z := zz); (clear zz); rw [lay_nil h'])) <;> simp -implicitDefEqProofs only [syms, symx, Nat.reduceAdd, Nat.reduceMul, Int.reduceLT, Int.reduceLE, Int.reduceAdd, Int.reduceSub, Int.reduceToNat, Int.reduceNeg, reduceIte, Nat.reduceGT, Nat.reduceLT, Nat.reduceLeDiff, code5_0, code5_1, code5_2, code5_3, code5_4, code5_5, ty5])
      exact hk _ (z.upW _ _ (by omega))
  rw [List.take_of_length_le (by omega)] at hval
  have hpl : AllP all := fun x hx => (hval x hx).plain
  have hpl1 : AllP l := fun x hx => hpl x (by rw [← hall]; simp [hx])
  have hpm1 : AllP m := fun x hx => hpl x (by rw [← hall]; simp [hx])
  have hpn1 : AllP k := fun x hx => hpl x (by rw [← hall]; simp [hx])
  have eall : all = l ++ (m ++ k) := by rw [← hall, List.append_assoc]
  clear hI1 hval hln
  simp -implicitDefEqProofs only [syms, symx, Nat.reduceAdd, Nat.reduceMul, Int.reduceLT, Int.reduceLE, Int.reduceAdd, Int.reduceSub, Int.reduceToNat, Int.reduceNeg, reduceIte, Nat.reduceGT, Nat.reduceLT, Nat.reduceLeDiff, code5_0, code5_1, code5_2, code5_3, code5_4, code5_5, ty5, hv6, hva, hvb, hvc]
  repeat' ((first
    | ((with_reducible first | apply forkD | apply forkB | apply forkN | apply forkNP | apply forkNot) <;> intro _)
    | with_reducible_and_instances refine ixa_at s6 ds23 sz39 (by omega) hr (fun p hp => ?_)
    | with_reducible_and_instances refine lda hp ag39 sz39 ?_
    | ((with_reducible_and_instances apply unop_not); (· rfl))
    | ((with_reducible refine ⟨z.grw.lay _ _, ?_⟩); (intro _ h' zz x _); (try simp only [lay_lay, List.append_nil] at x); (replace z := zz); (clear zz); rw [lay_nil h'])) <;> simp -implicitDefEqProofs only [syms, symx, Nat.reduceAdd, Nat.reduceMul, Int.reduceLT, Int.reduceLE, Int.reduceAdd, Int.reduceSub, Int.reduceToNat, Int.reduceNeg, reduceIte, Nat.reduceGT, Nat.reduceLT, Nat.reduceLeDiff, code5_0, code5_1, code5_2, code5_3, code5_4, code5_5, ty5, hv6, hva, hvb, hvc])
  have cv := sl_cells hl
  have cu := sl_cells hm
  have cw := sl_cells hn
  have hsp : all.length = l.length + m.length + k.length := by rw [← hall, List.length_append, hll]
  have flm : [l, m].flatten = l ++ m := by simp
  have flmk : [l, m, k].flatten = l ++ (m ++ k) := by simp
  have fklm : [k, l, m].flatten = k ++ (l ++ m) := by simp
  have llm : ∀ x ∈ l ++ m, x.light = true := fun x hx => (List.mem_append.1 hx).elim (e2 x) (e4 x)
  simp -implicitDefEqProofs only [syms, symx, Nat.reduceAdd, Nat.reduceMul, Int.reduceLT, Int.reduceLE, Int.reduceAdd, Int.reduceSub, Int.reduceToNat, Int.reduceNeg, reduceIte, Nat.reduceGT, Nat.reduceLT, Nat.reduceLeDiff, code5_0, code5_1, code5_2, code5_3, code5_4, code5_5, ty5, fill_sl3 cv cu cw]
  refine ok_merge [l, m, k] _ _ (sl_laid3 (hl.mono z.inc) (hm.mono z.inc) (hn.mono z.inc)) (by simp) (by rw [flmk, ← eall]; omega) (by rw [flmk, ← eall]; exact hlight) _ (fun h' wa x oa => ?_)
  rw [flmk, ← eall] at oa
  replace oa := oa.sl
  replace s6 := s6.over x
  ((first | ((with_reducible refine KOpsX_call ?_ ?_ ?_); (· exact (by (try simp only [lay_size, List.length_cons, List.length_nil]); have := z.size; omega)); (· first | exact x | simpa only [lay_lay, lay_size, List.append_nil, List.length_cons, List.length_nil, Nat.add_zero] using x)) | skip); replace z := z.overW x (by (try simp only [lay_size, List.length_cons, List.length_nil]); omega); rw [lay_nil h'])
  have hvA : ∀ (h : Heap) (K : Value → Heap → Prop), valE (some wa) h K = K wa h := fun _ _ => rfl
  simp -implicitDefEqProofs only [syms, symx, Nat.reduceAdd, Nat.reduceMul, Int.reduceLT, Int.reduceLE, Int.reduceAdd, Int.reduceSub, Int.reduceToNat, Int.reduceNeg, reduceIte, Nat.reduceGT, Nat.reduceLT, Nat.reduceLeDiff, code5_0, code5_1, code5_2, code5_3, code5_4, code5_5, ty5, hvA, hv6, hva, hvb, hvc]
  repeat' ((first
    | ((with_reducible first | apply forkD | apply forkB | apply forkN | apply forkNP | apply forkNot) <;> intro _)
    | with_reducible_and_instances refine ixa_at s6 ds23 sz39 (by omega) hr (fun p hp => ?_)
    | with_reducible_and_instances refine lda hp ag39 sz39 ?_
    | ((with_reducible_and_instances apply unop_not); (· rfl))
    | ((with_reducible refine ⟨z.grw.lay _ _, ?_⟩); (intro _ h' zz x _); (try simp only [lay_lay, List.append_nil] at x); (replace z := zz); (clear zz); rw [lay_nil h'])) <;> simp -implicitDefEqProofs only [syms, symx, Nat.reduceAdd, Nat.reduceMul, Int.reduceLT, Int.reduceLE, Int.reduceAdd, Int.reduceSub, Int.reduceToNat, Int.reduceNeg, reduceIte, Nat.reduceGT, Nat.reduceLT, Nat.reduceLeDiff, code5_0, code5_1, code5_2, code5_3, code5_4, code5_5, ty5, hvA, hv6, hva, hvb, hvc])
  have ll := sortA_length all
  have hla := sortA_light hlight
  refine ok_is (sortA all) wa _ (oa.lay _ _) (by omega) hla _ (fun h' x => ?_)
  rw [isA_iff.2 (sortA_of all).asc]
  replace oa := oa.over x
  replace s6 := s6.over x
  ((first | ((with_reducible refine KOpsX_call ?_ ?_ ?_); (· exact (by (try simp only [lay_size, List.length_cons, List.length_nil]); have := z.size; omega)); (· first | exact x | simpa only [lay_lay, lay_size, List.append_nil, List.length_cons, List.length_nil, Nat.add_zero] using x)) | skip); replace z := z.overW x (by (try simp only [lay_size, List.length_cons, List.length_nil]); omega); rw [lay_nil h'])
  simp -implicitDefEqProofs only [syms, symx, Nat.reduceAdd, Nat.reduceMul, Int.reduceLT, Int.reduceLE, Int.reduceAdd, Int.reduceSub, Int.reduceToNat, Int.reduceNeg, reduceIte, Nat.reduceGT, Nat.reduceLT, Nat.reduceLeDiff, code5_0, code5_1, code5_2, code5_3, code5_4, code5_5, ty5, hvA, hv6, hva, hvb, hvc, fill_sl3 cw cv cu]
  repeat' ((first
    | ((with_reducible first | apply forkD | apply forkB | apply forkN | apply forkNP | apply forkNot) <;> intro _)
    | with_reducible_and_instances refine ixa_at s6 ds23 sz39 (by omega) hr (fun p hp => ?_)
    | with_reducible_and_instances refine lda hp ag39 sz39 ?_
    | ((with_reducible_and_instances apply unop_not); (· rfl))
    | ((with_reducible refine ⟨z.grw.lay _ _, ?_⟩); (intro _ h' zz x _); (try simp only [lay_lay, List.append_nil] at x); (replace z := zz); (clear zz); rw [lay_nil h'])) <;> simp -implicitDefEqProofs only [syms, symx, Nat.reduceAdd, Nat.reduceMul, Int.reduceLT, Int.reduceLE, Int.reduceAdd, Int.reduceSub, Int.reduceToNat, Int.reduceNeg, reduceIte, Nat.reduceGT, Nat.reduceLT, Nat.reduceLeDiff, code5_0, code5_1, code5_2, code5_3, code5_4, code5_5, ty5, hvA, hv6, hva, hvb, hvc, fill_sl3 cw cv cu])
  refine ok_merge [k, l, m] _ _ (sl_laid3 (hn.mono z.inc) (hl.mono z.inc) (hm.mono z.inc)) (by simp) (by rw [fklm]; simp only [List.length_append]; omega) (by rw [fklm]; intro x hx; exact (List.mem_append.1 hx).elim (e6 x) (llm x)) _ (fun h' wb x ob => ?_)
  rw [fklm, ← merge_rot hpl1 hpm1 hpn1, ← eall] at ob
  replace ob := ob.sl
  replace oa := oa.over x
  replace s6 := s6.over x
  ((first | ((with_reducible refine KOpsX_call ?_ ?_ ?_); (· exact (by (try simp only [lay_size, List.length_cons, List.length_nil]); have := z.size; omega)); (· first | exact x | simpa only [lay_lay, lay_size, List.append_nil, List.length_cons, List.length_nil, Nat.add_zero] using x)) | skip); replace z := z.overW x (by (try simp only [lay_size, List.length_cons, List.length_nil]); omega); rw [lay_nil h'])
  have hvB : ∀ (h : Heap) (K : Value → Heap → Prop), valE (some wb) h K = K wb h := fun _ _ => rfl
  simp -implicitDefEqProofs only [syms, symx, Nat.reduceAdd, Nat.reduceMul, Int.reduceLT, Int.reduceLE, Int.reduceAdd, Int.reduceSub, Int.reduceToNat, Int.reduceNeg, reduceIte, Nat.reduceGT, Nat.reduceLT, Nat.reduceLeDiff, code5_0, code5_1, code5_2, code5_3, code5_4, code5_5, ty5, hvA, hvB, hv6, hva, hvb, hvc]
  repeat' ((first
    | ((with_reducible first | apply forkD | apply forkB | apply forkN | apply forkNP | apply forkNot) <;> intro _)
    | with_reducible_and_instances refine ixa_at s6 ds23 sz39 (by omega) hr (fun p hp => ?_)
    | with_reducible_and_instances refine lda hp ag39 sz39 ?_
    | ((with_reducible_and_instances apply unop_not); (· rfl))
    | ((with_reducible refine ⟨z.grw.lay _ _, ?_⟩); (intro _ h' zz x _); (try simp only [lay_lay, List.append_nil] at x); (replace z := zz); (clear zz); rw [lay_nil h'])) <;> simp -implicitDefEqProofs only [syms, symx, Nat.reduceAdd, Nat.reduceMul, Int.reduceLT, Int.reduceLE, Int.reduceAdd, Int.reduceSub, Int.reduceToNat, Int.reduceNeg, reduceIte, Nat.reduceGT, Nat.reduceLT, Nat.reduceLeDiff, code5_0, code5_1, code5_2, code5_3, code5_4, code5_5, ty5, hvA, hvB, hv6, hva, hvb, hvc])
  refine ok_sameAtoms _ _ _ _ _ (oa.lay _ _) (ob.lay _ _) (by omega) (by omega) _ (fun h' x => ?_)
  rw [decide_eq_true rfl]
  replace oa := oa.over x
  replace s6 := s6.over x
  ((first | ((with_reducible refine KOpsX_call ?_ ?_ ?_); (· exact (by (try simp only [lay_size, List.length_cons, List.length_nil]); have := z.size; omega)); (· first | exact x | simpa only [lay_lay, lay_size, List.append_nil, List.length_cons, List.length_nil, Nat.add_zero] using x)) | skip); replace z := z.overW x (by (try simp only [lay_size, List.length_cons, List.length_nil]); omega); rw [lay_nil h'])
  simp -implicitDefEqProofs only [syms, symx, Nat.reduceAdd, Nat.reduceMul, Int.reduceLT, Int.reduceLE, Int.reduceAdd, Int.reduceSub, Int.reduceToNat, Int.reduceNeg, reduceIte, Nat.reduceGT, Nat.reduceLT, Nat.reduceLeDiff, code5_0, code5_1, code5_2, code5_3, code5_4, code5_5, ty5, hvA, hvB, hv6, hva, hvb, hvc, fill_sl2 cv cu]
  repeat' ((first
    | ((with_reducible first | apply forkD | apply forkB | apply forkN | apply forkNP | apply forkNot) <;> intro _)
    | with_reducible_and_instances refine ixa_at s6 ds23 sz39 (by omega) hr (fun p hp => ?_)
    | with_reducible_and_instances refine lda hp ag39 sz39 ?_
    | ((with_reducible_and_instances apply unop_not); (· rfl))
    | ((with_reducible refine ⟨z.grw.lay _ _, ?_⟩); (intro _ h' zz x _); (try simp only [lay_lay, List.append_nil] at x); (replace z := zz); (clear zz); rw [lay_nil h'])) <;> simp -implicitDefEqProofs only [syms, symx, Nat.reduceAdd, Nat.reduceMul, Int.reduceLT, Int.reduceLE, Int.reduceAdd, Int.reduceSub, Int.reduceToNat, Int.reduceNeg, reduceIte, Nat.reduceGT, Nat.reduceLT, Nat.reduceLeDiff, code5_0, code5_1, code5_2, code5_3, code5_4, code5_5, ty5, hvA, hvB, hv6, hva, hvb, hvc, fill_sl2 cv cu])
  refine ok_merge [l, m] _ _ (sl_laid2 (hl.mono z.inc) (hm.mono z.inc)) (by simp) (by rw [flm]; omega) (by rw [flm]; exact llm) _ (fun h' wb x ob => ?_)
  rw [flm] at ob
  replace ob := ob.sl
  replace oa := oa.over x
  replace s6 := s6.over x
  ((first | ((with_reducible refine KOpsX_call ?_ ?_ ?_); (· exact (by (try simp only [lay_size, List.length_cons, List.length_nil]); have := z.size; omega)); (· first | exact x | simpa only [lay_lay, lay_size, List.append_nil, List.length_cons, List.length_nil, Nat.add_zero] using x)) | skip); replace z := z.overW x (by (try simp only [lay_size, List.length_cons, List.length_nil]); omega); rw [lay_nil h'])
  have hvB : ∀ (h : Heap) (K : Value → Heap → Prop), valE (some wb) h K = K wb h := fun _ _ => rfl
  have cb := sl_cells ob
  simp -implicitDefEqProofs only [syms, symx, Nat.reduceAdd, Nat.reduceMul, Int.reduceLT, Int.reduceLE, Int.reduceAdd, Int.reduceSub, Int.reduceToNat, Int.reduceNeg, reduceIte, Nat.reduceGT, Nat.reduceLT, Nat.reduceLeDiff, code5_0, code5_1, code5_2, code5_3, code5_4, code5_5, ty5, hvA, hvB, hv6, hva, hvb, hvc, fill_sl2 cb cw]
  repeat' ((first
    | ((with_reducible first | apply forkD | apply forkB | apply forkN | apply forkNP | apply forkNot) <;> intro _)
    | with_reducible_and_instances refine ixa_at s6 ds23 sz39 (by omega) hr (fun p hp => ?_)
    | with_reducible_and_instances refine lda hp ag39 sz39 ?_
    | ((with_reducible_and_instances apply unop_not); (· rfl))
    | ((with_reducible refine ⟨z.grw.lay _ _, ?_⟩); (intro _ h' zz x _); (try simp only [lay_lay, List.append_nil] at x); (replace z := zz); (clear zz); rw [lay_nil h'])) <;> simp -implicitDefEqProofs only [syms, symx, Nat.reduceAdd, Nat.reduceMul, Int.reduceLT, Int.reduceLE, Int.reduceAdd, Int.reduceSub, Int.reduceToNat, Int.reduceNeg, reduceIte, Nat.reduceGT, Nat.reduceLT, Nat.reduceLeDiff, code5_0, code5_1, code5_2, code5_3, code5_4, code5_5, ty5, hvA, hvB, hv6, hva, hvb, hvc, fill_sl2 cb cw])
  have fbk : [sortA (l ++ m), k].flatten = sortA (l ++ m) ++ k := by simp
  have llb := sortA_length (l ++ m)
  refine ok_merge [sortA (l ++ m), k] _ _ (sl_laid2 ob (hn.mono z.inc)) (by simp) (by rw [fbk, List.length_append]; omega) (by rw [fbk]; intro x hx; exact (List.mem_append.1 hx).elim (sortA_light llm x) (e6 x)) _ (fun h' wb x ob => ?_)
  rw [fbk, ← merge_assoc hpl1 hpm1 hpn1, ← eall] at ob
  replace ob := ob.sl
  replace oa := oa.over x
  replace s6 := s6.over x
  ((first | ((with_reducible refine KOpsX_call ?_ ?_ ?_); (· exact (by (try simp only [lay_size, List.length_cons, List.length_nil]); have := z.size; omega)); (· first | exact x | simpa only [lay_lay, lay_size, List.append_nil, List.length_cons, List.length_nil, Nat.add_zero] using x)) | skip); replace z := z.overW x (by (try simp only [lay_size, List.length_cons, List.length_nil]); omega); rw [lay_nil h'])
  have hvB : ∀ (h : Heap) (K : Value → Heap → Prop), valE (some wb) h K = K wb h := fun _ _ => rfl
  simp -implicitDefEqProofs only [syms, symx, Nat.reduceAdd, Nat.reduceMul, Int.reduceLT, Int.reduceLE, Int.reduceAdd, Int.reduceSub, Int.reduceToNat, Int.reduceNeg, reduceIte, Nat.reduceGT, Nat.reduceLT, Nat.reduceLeDiff, code5_0, code5_1, code5_2, code5_3, code5_4, code5_5, ty5, hvA, hvB, hv6, hva, hvb, hvc]
  repeat' ((first
    | ((with_reducible first | apply forkD | apply forkB | apply forkN | apply forkNP | apply forkNot) <;> intro _)
    | with_reducible_and_instances refine ixa_at s6 ds23 sz39 (by omega) hr (fun p hp => ?_)
    | with_reducible_and_instances refine lda hp ag39 sz39 ?_
    | ((with_reducible_and_instances apply unop_not); (· rfl))
    | ((with_reducible refine ⟨z.grw.lay _ _, ?_⟩); (intro _ h' zz x _); (try simp only [lay_lay, List.append_nil] at x); (replace z := zz); (clear zz); rw [lay_nil h'])) <;> simp -implicitDefEqProofs only [syms, symx, Nat.reduceAdd, Nat.reduceMul, Int.reduceLT, Int.reduceLE, Int.reduceAdd, Int.reduceSub, Int.reduceToNat, Int.reduceNeg, reduceIte, Nat.reduceGT, Nat.reduceLT, Nat.reduceLeDiff, code5_0, code5_1, code5_2, code5_3, code5_4, code5_5, ty5, hvA, hvB, hv6, hva, hvb, hvc])
  refine ok_sameAtoms _ _ _ _ _ (oa.lay _ _) (ob.lay _ _) (by omega) (by omega) _ (fun h' x => ?_)
  rw [decide_eq_true rfl]
  replace oa := oa.over x
  replace s6 := s6.over x
  ((first | ((with_reducible refine KOpsX_call ?_ ?_ ?_); (· exact (by (try simp only [lay_size, List.length_cons, List.length_nil]); have := z.size; omega)); (· first | exact x | simpa only [lay_lay, lay_size, List.append_nil, List.length_cons, List.length_nil, Nat.add_zero] using x)) | skip); replace z := z.overW x (by (try simp only [lay_size, List.length_cons, List.length_nil]); omega); rw [lay_nil h'])
  simp -implicitDefEqProofs only [syms, symx, Nat.reduceAdd, Nat.reduceMul, Int.reduceLT, Int.reduceLE, Int.reduceAdd, Int.reduceSub, Int.reduceToNat, Int.reduceNeg, reduceIte, Nat.reduceGT, Nat.reduceLT, Nat.reduceLeDiff, code5_0, code5_1, code5_2, code5_3, code5_4, code5_5, ty5, hvA, hv6, hva, hvb, hvc]
  repeat' ((first
    | ((with_reducible first | apply forkD | apply forkB | apply forkN | apply forkNP | apply forkNot) <;> intro _)
    | with_reducible_and_instances refine ixa_at s6 ds23 sz39 (by omega) hr (fun p hp => ?_)
    | with_reducible_and_instances refine lda hp ag39 sz39 ?_
    | ((with_reducible_and_instances apply unop_not); (· rfl))
    | ((with_reducible refine ⟨z.grw.lay _ _, ?_⟩); (intro _ h' zz x _); (try simp only [lay_lay, List.append_nil] at x); (replace z := zz); (clear zz); rw [lay_nil h'])) <;> simp -implicitDefEqProofs only [syms, symx, Nat.reduceAdd, Nat.reduceMul, Int.reduceLT, Int.reduceLE, Int.reduceAdd, Int.reduceSub, Int.reduceToNat, Int.reduceNeg, reduceIte, Nat.reduceGT, Nat.reduceLT, Nat.reduceLeDiff, code5_0, code5_1, code5_2, code5_3, code5_4, code5_5, ty5, hvA, hv6, hva, hvb, hvc])
  refine ok_sorted all _ _ (s6.lay _ _) (by omega) hlight _ (fun h' wb x ob => ?_)
  replace ob := ob.sl
  replace oa := oa.over x
  ((first | ((with_reducible refine KOpsX_call ?_ ?_ ?_); (· exact (by (try simp only [lay_size, List.length_cons, List.length_nil]); have := z.size; omega)); (· first | exact x | simpa only [lay_lay, lay_size, List.append_nil, List.length_cons, List.length_nil, Nat.add_zero] using x)) | skip); replace z := z.overW x (by (try simp only [lay_size, List.length_cons, List.length_nil]); omega); rw [lay_nil h'])
  have hvB : ∀ (h : Heap) (K : Value → Heap → Prop), valE (some wb) h K = K wb h := fun _ _ => rfl
  simp -implicitDefEqProofs only [syms, symx, Nat.reduceAdd, Nat.reduceMul, Int.reduceLT, Int.reduceLE, Int.reduceAdd, Int.reduceSub, Int.reduceToNat, Int.reduceNeg, reduceIte, Nat.reduceGT, Nat.reduceLT, Nat.reduceLeDiff, code5_0, code5_1, code5_2, code5_3, code5_4, code5_5, ty5, hvA, hvB, hv6, hva, hvb, hvc]
  repeat' ((first
    | ((with_reducible first | apply forkD | apply forkB | apply forkN | apply forkNP | apply forkNot) <;> intro _)
    | with_reducible_and_instances refine ixa_at s6 ds23 sz39 (by omega) hr (fun p hp => ?_)
    | with_reducible_and_instances refine lda hp ag39 sz39 ?_
    | ((with_reducible_and_instances apply unop_not); (· rfl))
    | ((with_reducible refine ⟨z.grw.lay _ _, ?_⟩); (intro _ h' zz x _); (try simp only [lay_lay, List.append_nil] at x); (replace z := zz); (clear zz); rw [lay_nil h'])) <;> simp -implicitDefEqProofs only [syms, symx, Nat.reduceAdd, Nat.reduceMul, Int.reduceLT, Int.reduceLE, Int.reduceAdd, Int.reduceSub, Int.reduceToNat, Int.reduceNeg, reduceIte, Nat.reduceGT, Nat.reduceLT, Nat.reduceLeDiff, code5_0, code5_1, code5_2, code5_3, code5_4, code5_5, ty5, hvA, hvB, hv6, hva, hvb, hvc])
  refine ok_sameAtoms _ _ _ _ _ (oa.lay _ _) (ob.lay _ _) (by omega) (by omega) _ (fun h' x => ?_)
  rw [decide_eq_true rfl]
  ((first | ((with_reducible refine KOpsX_call ?_ ?_ ?_); (· exact (by (try simp only [lay_size, List.length_cons, List.length_nil]); have := z.size; omega)); (· first | exact x | simpa only [lay_lay, lay_size, List.append_nil, List.length_cons, List.length_nil, Nat.add_zero] using x)) | skip); replace z := z.overW x (by (try simp only [lay_size, List.length_cons, List.length_nil]); omega); rw [lay_nil h'])
  simp -implicitDefEqProofs only [syms, symx, Nat.reduceAdd, Nat.reduceMul, Int.reduceLT, Int.reduceLE, Int.reduceAdd, Int.reduceSub, Int.reduceToNat, Int.reduceNeg, reduceIte, Nat.reduceGT, Nat.reduceLT, Nat.reduceLeDiff, code5_0, code5_1, code5_2, code5_3, code5_4, code5_5, ty5, hva, hvb, hvc]
  repeat' ((first
    | ((with_reducible first | apply forkD | apply forkB | apply forkN | apply forkNP | apply forkNot) <;> intro _)
    | with_reducible_and_instances refine ixa_at s6 ds23 sz39 (by omega) hr (fun p hp => ?_)
    | with_reducible_and_instances refine lda hp ag39 sz39 ?_
    | ((with_reducible_and_instances apply unop_not); (· rfl))
    | ((with_reducible refine ⟨z.grw.lay _ _, ?_⟩); (intro _ h' zz x _); (try simp only [lay_lay, List.append_nil] at x); (replace z := zz); (clear zz); rw [lay_nil h'])) <;> simp -implicitDefEqProofs only [syms, symx, Nat.reduceAdd, Nat.reduceMul, Int.reduceLT, Int.reduceLE, Int.reduceAdd, Int.reduceSub, Int.reduceToNat, Int.reduceNeg, reduceIte, Nat.reduceGT, Nat.reduceLT, Nat.reduceLeDiff, code5_0, code5_1, code5_2, code5_3, code5_4, code5_5, ty5, hva, hvb, hvc])
  clear oa ob s6 hvA hvB
  obtain ⟨only, honly⟩ : ∃ only, only = minusA l m := ⟨_, rfl⟩
  have holen : only.length ≤ 30 := by
    have h1 : only.length ≤ (sortA l).length := by rw [honly]; exact List.length_filter_le _ _
    have h2 := sortA_length l
    omega
  have hol : ∀ x ∈ only, x.light = true := fun x hx => by
    rw [honly] at hx
    exact sortA_light e2 x (List.mem_filter.1 hx).1
  refine ok_minus l m v u _ ((hl.mono z.inc).lay _ _) ((hm.mono z.inc).lay _ _) (by omega) (by omega) e2 e4 _ (fun h' wo x oo => ?_)
  rw [show (sortA l).filter (fun x => !hasA m x) = only from honly.symm] at oo
  replace oo := oo.sl
  ((first | ((with_reducible refine KOpsX_call ?_ ?_ ?_); (· exact (by (try simp only [lay_size, List.length_cons, List.length_nil]); have := z.size; omega)); (· first | exact x | simpa only [lay_lay, lay_size, List.append_nil, List.length_cons, List.length_nil, Nat.add_zero] using x)) | skip); replace z := z.overW x (by (try simp only [lay_size, List.length_cons, List.length_nil]); omega); rw [lay_nil h'])
  have hvO : ∀ (h : Heap) (K : Value → Heap → Prop), valE (some wo) h K = K wo h := fun _ _ => rfl
  simp -implicitDefEqProofs only [syms, symx, Nat.reduceAdd, Nat.reduceMul, Int.reduceLT, Int.reduceLE, Int.reduceAdd, Int.reduceSub, Int.reduceToNat, Int.reduceNeg, reduceIte, Nat.reduceGT, Nat.reduceLT, Nat.reduceLeDiff, code5_0, code5_1, code5_2, code5_3, code5_4, code5_5, ty5, hvO, hva, hvb, hvc]
  repeat' ((first
    | ((with_reducible first | apply forkD | apply forkB | apply forkN | apply forkNP | apply forkNot) <;> intro _)
    | with_reducible_and_instances refine ixa_at s6 ds23 sz39 (by omega) hr (fun p hp => ?_)
    | with_reducible_and_instances refine lda hp ag39 sz39 ?_
    | ((with_reducible_and_instances apply unop_not); (· rfl))
    | ((with_reducible refine ⟨z.grw.lay _ _, ?_⟩); (intro _ h' zz x _); (try simp only [lay_lay, List.append_nil] at x); (replace z := zz); (clear zz); rw [lay_nil h'])) <;> simp -implicitDefEqProofs only [syms, symx, Nat.reduceAdd, Nat.reduceMul, Int.reduceLT, Int.reduceLE, Int.reduceAdd, Int.reduceSub, Int.reduceToNat, Int.reduceNeg, reduceIte, Nat.reduceGT, Nat.reduceLT, Nat.reduceLeDiff, code5_0, code5_1, code5_2, code5_3, code5_4, code5_5, ty5, hvO, hva, hvb, hvc])
  obtain ⟨both, hboth⟩ : ∃ both, both = minusA l only := ⟨_, rfl⟩
  refine ok_minus l only v wo _ ((hl.mono z.inc).lay _ _) (oo.lay _ _) (by omega) (by omega) e2 hol _ (fun h' wt x ot => ?_)
  rw [show (sortA l).filter (fun x => !hasA only x) = both from hboth.symm] at ot
  replace ot := ot.sl
  replace oo := oo.over x
  ((first | ((with_reducible refine KOpsX_call ?_ ?_ ?_); (· exact (by (try simp only [lay_size, List.length_cons, List.length_nil]); have := z.size; omega)); (· first | exact x | simpa only [lay_lay, lay_size, List.append_nil, List.length_cons, List.length_nil, Nat.add_zero] using x)) | skip); replace z := z.overW x (by (try simp only [lay_size, List.length_cons, List.length_nil]); omega); rw [lay_nil h'])
  have hvT : ∀ (h : Heap) (K : Value → Heap → Prop), valE (some wt) h K = K wt h := fun _ _ => rfl
  have hblen : both.length ≤ 30 := by
    have h1 : both.length ≤ (sortA l).length := by rw [hboth]; exact List.length_filter_le _ _
    have h2 := sortA_length l
    omega
  have hbl : ∀ x ∈ both, x.light = true := fun x hx => by
    rw [hboth] at hx
    exact sortA_light e2 x (List.mem_filter.1 hx).1
  have hbh : ∀ x ∈ both, hasA m x = true := by
    rw [hboth, honly]
    exact both_has hpl1 hpm1
  have hbsum : only.length + both.length = (sortA l).length := by
    rw [hboth, honly]
    exact both_len hpl1 hpm1
  have honlym : sortA (only ++ m) = sortA (l ++ m) := by
    rw [honly]
    exact minus_merge hpl1 hpm1
  simp -implicitDefEqProofs only [syms, symx, Nat.reduceAdd, Nat.reduceMul, Int.reduceLT, Int.reduceLE, Int.reduceAdd, Int.reduceSub, Int.reduceToNat, Int.reduceNeg, reduceIte, Nat.reduceGT, Nat.reduceLT, Nat.reduceLeDiff, code5_0, code5_1, code5_2, code5_3, code5_4, code5_5, ty5, hvO, hvT, hva, hvb, hvc]
  repeat' ((first
    | ((with_reducible first | apply forkD | apply forkB | apply forkN | apply forkNP | apply forkNot) <;> intro _)
    | with_reducible_and_instances refine ixa_at s6 ds23 sz39 (by omega) hr (fun p hp => ?_)
    | with_reducible_and_instances refine lda hp ag39 sz39 ?_
    | ((with_reducible_and_instances apply unop_not); (· rfl))
    | ((with_reducible refine ⟨z.grw.lay _ _, ?_⟩); (intro _ h' zz x _); (try simp only [lay_lay, List.append_nil] at x); (replace z := zz); (clear zz); rw [lay_nil h'])) <;> simp -implicitDefEqProofs only [syms, symx, Nat.reduceAdd, Nat.reduceMul, Int.reduceLT, Int.reduceLE, Int.reduceAdd, Int.reduceSub, Int.reduceToNat, Int.reduceNeg, reduceIte, Nat.reduceGT, Nat.reduceLT, Nat.reduceLeDiff, code5_0, code5_1, code5_2, code5_3, code5_4, code5_5, ty5, hvO, hvT, hva, hvb, hvc])
  obtain ⟨I2, hI2⟩ : ∃ I : Nat → Env → Heap → Prop, I = (fun n e h' => ∃ (j : Nat) (h1 : Heap), h' = h1.lay [] h1.low ∧ Ext h h1 ∧ (n = both.length - j ∧ j ≤ both.length ∧ Sl Rep.atom h1 wt both ∧ Sl Rep.atom h1 wo only) ∧ ∃ J : Nat → Value, e = (v :: u :: w :: J 3 :: J 4 :: J 5 :: J 6 :: J 7 :: J 8 :: J 9 :: wo :: wt :: .int .i64 j :: J 13 :: J 14 :: J 15 :: J 16 :: J 17 :: J 18 :: J 19 :: J 20 :: J 21 :: J 22 :: J 23 :: J 24 :: J 25 :: J 26 :: J 27 :: J 28 :: J 29 :: J 30 :: J 31 :: J 32 :: J 33 :: J 34 :: J 35 :: J 36 :: J 37 :: J 38 :: J 39 :: J 40 :: J 41 :: J 42 :: J 43 :: J 44 :: J 45 :: J 46 :: J 47 :: J 48 :: J 49 :: J 50 :: J 51 :: J 52 :: J 53 :: J 54 :: J 55 :: J 56 :: J 57 :: J 58 :: J 59 :: J 60 :: J 61 :: J 62 :: J 63 :: J 64 :: J 65 :: J 66 :: J 67 :: J 68 :: J 69 :: J 70 :: J 71 :: J 72 :: J 73 :: J 74 :: J 75 :: J 76 :: J 77 :: J 78 :: J 79 :: J 80 :: J 81 :: J 82 :: J 83 :: J 84 :: J 85 :: J 86 :: J 87 :: J 88 :: J 89 :: J 90 :: J 91 :: J 92 :: J 93 :: J 94 :: J 95 :: J 96 :: J 97 :: J 98 :: J 99 :: J 100 :: J 101 :: J 102 :: J 103 :: J 104 :: J 105 :: J 106 :: J 107 :: J 108 :: J 109 :: J 110 :: J 111 :: J 112 :: J 113 :: J 114 :: J 115 :: J 116 :: J 117 :: J 118 :: J 119 :: J 120 :: J 121 :: J 122 :: J 123 :: [])) := ⟨_, rfl⟩
  refine W_loopN I2 _ (by rw [hI2]; exact ⟨0, _, rfl, z, ⟨rfl, by omega, ot, oo⟩, junk (by kernel_rfl)⟩) ?_
  intro n e h' hin
  rw [hI2] at hin
  obtain ⟨j, h1', rfl, z, hinv, J, rfl⟩ := hin
  clear ot oo
  obtain ⟨rfl, hj, ot, oo⟩ := hinv
  have hwj : IntKind.i64.wrap ((j : Int) + 1) = ((j + 1 : Nat) : Int) := by rw [wrap_i64 (by omega) (by omega)]; omega
  have hln := fun (hh : Heap) => ot.lenA ds23 hh
  have hlo := fun (hh : Heap) => oo.lenA ds23 hh
  simp -implicitDefEqProofs only [syms, symx, Nat.reduceAdd, Nat.reduceMul, Int.reduceLT, Int.reduceLE, Int.reduceAdd, Int.reduceSub, Int.reduceToNat, Int.reduceNeg, reduceIte, Nat.reduceGT, Nat.reduceLT, Nat.reduceLeDiff, code5_0, code5_1, code5_2, code5_3, code5_4, code5_5, ty5, hvO, hvT, hva, hvb, hvc, hln]
  refine forkD (fun hlt1 => ?_) (fun hlt1 => ?_)
  · have hr : both[(j : Int).toNat]? = some (both.getD j noAtomD) := getD_at (by omega)
    have hmem : both.getD j noAtomD ∈ both := List.mem_of_getElem? hr
    simp -implicitDefEqProofs only [syms, symx, Nat.reduceAdd, Nat.reduceMul, Int.reduceLT, Int.reduceLE, Int.reduceAdd, Int.reduceSub, Int.reduceToNat, Int.reduceNeg, reduceIte, Nat.reduceGT, Nat.reduceLT, Nat.reduceLeDiff, code5_0, code5_1, code5_2, code5_3, code5_4, code5_5, ty5, hvO, hvT, hva, hvb, hvc]
    refine D5_69 (z.upW _ _ (by omega)) ?_
    simp -implicitDefEqProofs only [syms, symx, Nat.reduceAdd, Nat.reduceMul, Int.reduceLT, Int.reduceLE, Int.reduceAdd, Int.reduceSub, Int.reduceToNat, Int.reduceNeg, reduceIte, Nat.reduceGT, Nat.reduceLT, Nat.reduceLeDiff, code5_0, code5_1, code5_2, code5_3, code5_4, code5_5, ty5, hvO, hvT, hva, hvb, hvc]
    refine ok_sorted m _ _ ((hm.mono z.inc).lay _ _) (by omega) e4 _ (fun h' wb x ob => ?_)
    replace ob := ob.sl
    ((first | ((with_reducible refine KOpsX_call ?_ ?_ ?_); (· exact (by (try simp only [lay_size, List.length_cons, List.length_nil]); have := z.size; omega)); (· first | exact x | simpa only [lay_lay, lay_size, List.append_nil, List.length_cons, List.length_nil, Nat.add_zero] using x)) | skip); replace z := z.overW x (by (try simp only [lay_size, List.length_cons, List.length_nil]); omega); (try replace ot := ot.over x); (try replace oo := oo.over x); rw [lay_nil h'])
    have hvB : ∀ (h : Heap) (K : Value → Heap → Prop), valE (some wb) h K = K wb h := fun _ _ => rfl
    simp -implicitDefEqProofs only [syms, symx, Nat.reduceAdd, Nat.reduceMul, Int.reduceLT, Int.reduceLE, Int.reduceAdd, Int.reduceSub, Int.reduceToNat, Int.reduceNeg, reduceIte, Nat.reduceGT, Nat.reduceLT, Nat.reduceLeDiff, code5_0, code5_1, code5_2, code5_3, code5_4, code5_5, ty5, hvO, hvT, hvB, hva, hvb, hvc]
    repeat' ((first
      | ((with_reducible first | apply forkD | apply forkB | apply forkN | apply forkNP | apply forkNot) <;> intro _)
      | with_reducible_and_instances refine ixa_at ot ds23 sz39 (by omega) hr (fun p hp => ?_)
      | with_reducible_and_instances refine lda hp ag39 sz39 ?_
      | ((with_reducible_and_instances apply unop_not); (· rfl))
      | ((with_reducible refine ⟨z.grw.lay _ _, ?_⟩); (intro _ h' zz x _); (try simp only [lay_lay, List.append_nil] at x); (try replace ot := ot.over x); (try replace oo := oo.over x); (replace z := zz); (clear zz); rw [lay_nil h'])) <;> simp -implicitDefEqProofs only [syms, symx, Nat.reduceAdd, Nat.reduceMul, Int.reduceLT, Int.reduceLE, Int.reduceAdd, Int.reduceSub, Int.reduceToNat, Int.reduceNeg, reduceIte, Nat.reduceGT, Nat.reduceLT, Nat.reduceLeDiff, code5_0, code5_1, code5_2, code5_3, code5_4, code5_5, ty5, hvO, hvT, hvB, hva, hvb, hvc])
    have lsm := sortA_length m
    refine ok_has (sortA m) _ wb _ (ob.lay _ _) (by omega) (sortA_light e4) (hbl _ hmem) _ (fun h' x => ?_)
    rw [hasA_sort, hbh _ hmem]
    ((first | ((with_reducible refine KOpsX_call ?_ ?_ ?_); (· exact (by (try simp only [lay_size, List.length_cons, List.length_nil]); have := z.size; omega)); (· first | exact x | simpa only [lay_lay, lay_size, List.append_nil, List.length_cons, List.length_nil, Nat.add_zero] using x)) | skip); replace z := z.overW x (by (try simp only [lay_size, List.length_cons, List.length_nil]); omega); (try replace ot := ot.over x); (try replace oo := oo.over x); rw [lay_nil h'])
    simp -implicitDefEqProofs only [syms, symx, Nat.reduceAdd, Nat.reduceMul, Int.reduceLT, Int.reduceLE, Int.reduceAdd, Int.reduceSub, Int.reduceToNat, Int.reduceNeg, reduceIte, Nat.reduceGT, Nat.reduceLT, Nat.reduceLeDiff, code5_0, code5_1, code5_2, code5_3, code5_4, code5_5, ty5, hvO, hvT, hvB, hva, hvb, hvc]
    repeat' ((first
      | ((with_reducible first | apply forkD | apply forkB | apply forkN | apply forkNP | apply forkNot) <;> intro _)
      | with_reducible_and_instances refine ixa_at ot ds23 sz39 (by omega) hr (fun p hp => ?_)
      | with_reducible_and_instances refine lda hp ag39 sz39 ?_
      | ((with_reducible_and_instances apply unop_not); (· rfl))
      | ((with_reducible refine ⟨z.grw.lay _ _, ?_⟩); (intro _ h' zz x _); (try simp only [lay_lay, List.append_nil] at x); (try replace ot := ot.over x); (try replace oo := oo.over x); (replace z := zz); (clear zz); rw [lay_nil h'])) <;> simp -implicitDefEqProofs only [syms, symx, Nat.reduceAdd, Nat.reduceMul, Int.reduceLT, Int.reduceLE, Int.reduceAdd, Int.reduceSub, Int.reduceToNat, Int.reduceNeg, reduceIte, Nat.reduceGT, Nat.reduceLT, Nat.reduceLeDiff, code5_0, code5_1, code5_2, code5_3, code5_4, code5_5, ty5, hvO, hvT, hvB, hva, hvb, hvc])
    rw [hwj]
    (rw [hI2]; with_reducible refine loopN_normal (m := _) ?_ ⟨j + 1, _, rfl, z, ⟨rfl, by omega, ot, oo⟩, junk (by kernel_rfl)⟩; omega)
  have fom : [only, m].flatten = only ++ m := by simp
  have lom : ∀ x ∈ only ++ m, x.light = true := fun x hx => (List.mem_append.1 hx).elim (hol x) (e4 x)
  have co := sl_cells oo
  simp -implicitDefEqProofs only [syms, symx, Nat.reduceAdd, Nat.reduceMul, Int.reduceLT, Int.reduceLE, Int.reduceAdd, Int.reduceSub, Int.reduceToNat, Int.reduceNeg, reduceIte, Nat.reduceGT, Nat.reduceLT, Nat.reduceLeDiff, code5_0, code5_1, code5_2, code5_3, code5_4, code5_5, ty5, hvO, hvT, hva, hvb, hvc, fill_sl2 co cu]
  repeat' ((first
    | ((with_reducible first | apply forkD | apply forkB | apply forkN | apply forkNP | apply forkNot) <;> intro _)
    | with_reducible_and_instances refine ixa_at ot ds23 sz39 (by omega) hr (fun p hp => ?_)
    | with_reducible_and_instances refine lda hp ag39 sz39 ?_
    | ((with_reducible_and_instances apply unop_not); (· rfl))
    | ((with_reducible refine ⟨z.grw.lay _ _, ?_⟩); (intro _ h' zz x _); (try simp only [lay_lay, List.append_nil] at x); (replace z := zz); (clear zz); rw [lay_nil h'])) <;> simp -implicitDefEqProofs only [syms, symx, Nat.reduceAdd, Nat.reduceMul, Int.reduceLT, Int.reduceLE, Int.reduceAdd, Int.reduceSub, Int.reduceToNat, Int.reduceNeg, reduceIte, Nat.reduceGT, Nat.reduceLT, Nat.reduceLeDiff, code5_0, code5_1, code5_2, code5_3, code5_4, code5_5, ty5, hvO, hvT, hva, hvb, hvc, fill_sl2 co cu])
  refine ok_merge [only, m] _ _ (sl_laid2 oo (hm.mono z.inc)) (by simp) (by rw [fom, List.length_append]; omega) (by rw [fom]; exact lom) _ (fun h' wa x oa => ?_)
  rw [fom, honlym] at oa
  replace oa := oa.sl
  ((first | ((with_reducible refine KOpsX_call ?_ ?_ ?_); (· exact (by (try simp only [lay_size, List.length_cons, List.length_nil]); have := z.size; omega)); (· first | exact x | simpa only [lay_lay, lay_size, List.append_nil, List.length_cons, List.length_nil, Nat.add_zero] using x)) | skip); replace z := z.overW x (by (try simp only [lay_size, List.length_cons, List.length_nil]); omega); rw [lay_nil h'])
  have hvA : ∀ (h : Heap) (K : Value → Heap → Prop), valE (some wa) h K = K wa h := fun _ _ => rfl
  simp -implicitDefEqProofs only [syms, symx, Nat.reduceAdd, Nat.reduceMul, Int.reduceLT, Int.reduceLE, Int.reduceAdd, Int.reduceSub, Int.reduceToNat, Int.reduceNeg, reduceIte, Nat.reduceGT, Nat.reduceLT, Nat.reduceLeDiff, code5_0, code5_1, code5_2, code5_3, code5_4, code5_5, ty5, hvA, hvO, hvT, hva, hvb, hvc, fill_sl2 cv cu]
  repeat' ((first
    | ((with_reducible first | apply forkD | apply forkB | apply forkN | apply forkNP | apply forkNot) <;> intro _)
    | with_reducible_and_instances refine ixa_at ot ds23 sz39 (by omega) hr (fun p hp => ?_)
    | with_reducible_and_instances refine lda hp ag39 sz39 ?_
    | ((with_reducible_and_instances apply unop_not); (· rfl))
    | ((with_reducible refine ⟨z.grw.lay _ _, ?_⟩); (intro _ h' zz x _); (try simp only [lay_lay, List.append_nil] at x); (replace z := zz); (clear zz); rw [lay_nil h'])) <;> simp -implicitDefEqProofs only [syms, symx, Nat.reduceAdd, Nat.reduceMul, Int.reduceLT, Int.reduceLE, Int.reduceAdd, Int.reduceSub, Int.reduceToNat, Int.reduceNeg, reduceIte, Nat.reduceGT, Nat.reduceLT, Nat.reduceLeDiff, code5_0, code5_1, code5_2, code5_3, code5_4, code5_5, ty5, hvA, hvO, hvT, hva, hvb, hvc, fill_sl2 cv cu])
  refine ok_merge [l, m] _ _ (sl_laid2 (hl.mono z.inc) (hm.mono z.inc)) (by simp) (by rw [flm]; omega) (by rw [flm]; exact llm) _ (fun h' wb x ob => ?_)
  rw [flm] at ob
  replace ob := ob.sl
  replace oa := oa.over x
  ((first | ((with_reducible refine KOpsX_call ?_ ?_ ?_); (· exact (by (try simp only [lay_size, List.length_cons, List.length_nil]); have := z.size; omega)); (· first | exact x | simpa only [lay_lay, lay_size, List.append_nil, List.length_cons, List.length_nil, Nat.add_zero] using x)) | skip); replace z := z.overW x (by (try simp only [lay_size, List.length_cons, List.length_nil]); omega); rw [lay_nil h'])
  have hvB : ∀ (h : Heap) (K : Value → Heap → Prop), valE (some wb) h K = K wb h := fun _ _ => rfl
  simp -implicitDefEqProofs only [syms, symx, Nat.reduceAdd, Nat.reduceMul, Int.reduceLT, Int.reduceLE, Int.reduceAdd, Int.reduceSub, Int.reduceToNat, Int.reduceNeg, reduceIte, Nat.reduceGT, Nat.reduceLT, Nat.reduceLeDiff, code5_0, code5_1, code5_2, code5_3, code5_4, code5_5, ty5, hvA, hvB, hvO, hvT, hva, hvb, hvc]
  repeat' ((first
    | ((with_reducible first | apply forkD | apply forkB | apply forkN | apply forkNP | apply forkNot) <;> intro _)
    | with_reducible_and_instances refine ixa_at ot ds23 sz39 (by omega) hr (fun p hp => ?_)
    | with_reducible_and_instances refine lda hp ag39 sz39 ?_
    | ((with_reducible_and_instances apply unop_not); (· rfl))
    | ((with_reducible refine ⟨z.grw.lay _ _, ?_⟩); (intro _ h' zz x _); (try simp only [lay_lay, List.append_nil] at x); (replace z := zz); (clear zz); rw [lay_nil h'])) <;> simp -implicitDefEqProofs only [syms, symx, Nat.reduceAdd, Nat.reduceMul, Int.reduceLT, Int.reduceLE, Int.reduceAdd, Int.reduceSub, Int.reduceToNat, Int.reduceNeg, reduceIte, Nat.reduceGT, Nat.reduceLT, Nat.reduceLeDiff, code5_0, code5_1, code5_2, code5_3, code5_4, code5_5, ty5, hvA, hvB, hvO, hvT, hva, hvb, hvc])
  have llm2 := sortA_length (l ++ m)
  refine ok_sameAtoms _ _ _ _ _ (oa.lay _ _) (ob.lay _ _) (by omega) (by omega) _ (fun h' x => ?_)
  rw [decide_eq_true rfl]
  ((first | ((with_reducible refine KOpsX_call ?_ ?_ ?_); (· exact (by (try simp only [lay_size, List.length_cons, List.length_nil]); have := z.size; omega)); (· first | exact x | simpa only [lay_lay, lay_size, List.append_nil, List.length_cons, List.length_nil, Nat.add_zero] using x)) | skip); replace z := z.overW x (by (try simp only [lay_size, List.length_cons, List.length_nil]); omega); rw [lay_nil h'])
  have hws : IntKind.i64.wrap ((only.length : Int) + (both.length : Int)) = ((sortA l).length : Int) := by
    rw [wrap_i64 (by omega) (by omega)]
    omega
  simp -implicitDefEqProofs only [syms, symx, Nat.reduceAdd, Nat.reduceMul, Int.reduceLT, Int.reduceLE, Int.reduceAdd, Int.reduceSub, Int.reduceToNat, Int.reduceNeg, reduceIte, Nat.reduceGT, Nat.reduceLT, Nat.reduceLeDiff, code5_0, code5_1, code5_2, code5_3, code5_4, code5_5, ty5, hvO, hvT, hva, hvb, hvc, hln, hlo, hws]
  repeat' ((first
    | ((with_reducible first | apply forkD | apply forkB | apply forkN | apply forkNP | apply forkNot) <;> intro _)
    | with_reducible_and_instances refine ixa_at ot ds23 sz39 (by omega) hr (fun p hp => ?_)
    | with_reducible_and_instances refine lda hp ag39 sz39 ?_
    | ((with_reducible_and_instances apply unop_not); (· rfl))
    | ((with_reducible refine ⟨z.grw.lay _ _, ?_⟩); (intro _ h' zz x _); (try simp only [lay_lay, List.append_nil] at x); (replace z := zz); (clear zz); rw [lay_nil h'])) <;> simp -implicitDefEqProofs only [syms, symx, Nat.reduceAdd, Nat.reduceMul, Int.reduceLT, Int.reduceLE, Int.reduceAdd, Int.reduceSub, Int.reduceToNat, Int.reduceNeg, reduceIte, Nat.reduceGT, Nat.reduceLT, Nat.reduceLeDiff, code5_0, code5_1, code5_2, code5_3, code5_4, code5_5, ty5, hvO, hvT, hva, hvb, hvc, hln, hlo, hws])
  refine ok_own l v _ ((hl.mono z.inc).lay _ _) (by omega) _ (fun w7 A7 h' x o7 hA7 => ?_)
  have s7 := o7.sl (by decide)
  ((first | ((with_reducible refine KOpsX_call ?_ ?_ ?_); (· exact (by (try simp only [lay_size, List.length_cons, List.length_nil]); have := z.size; omega)); (· first | exact x | simpa only [lay_lay, lay_size, List.append_nil, List.length_cons, List.length_nil, Nat.add_zero] using x)) | skip); replace z := z.overW x (by (try simp only [lay_size, List.length_cons, List.length_nil]); omega); rw [lay_nil h'])
  have hv7 : ∀ (h : Heap) (K : Value → Heap → Prop), valE (some w7) h K = K w7 h := fun _ _ => rfl
  simp -implicitDefEqProofs only [syms, symx, Nat.reduceAdd, Nat.reduceMul, Int.reduceLT, Int.reduceLE, Int.reduceAdd, Int.reduceSub, Int.reduceToNat, Int.reduceNeg, reduceIte, Nat.reduceGT, Nat.reduceLT, Nat.reduceLeDiff, code5_0, code5_1, code5_2, code5_3, code5_4, code5_5, ty5, hv7, hws]
  repeat' ((first
    | ((with_reducible first | apply forkD | apply forkB | apply forkN | apply forkNP | apply forkNot) <;> intro _)
    | with_reducible_and_instances refine ixa_at ot ds23 sz39 (by omega) hr (fun p hp => ?_)
    | with_reducible_and_instances refine lda hp ag39 sz39 ?_
    | ((with_reducible_and_instances apply unop_not); (· rfl))
    | ((with_reducible refine ⟨z.grw.lay _ _, ?_⟩); (intro _ h' zz x _); (try simp only [lay_lay, List.append_nil] at x); (replace z := zz); (clear zz); rw [lay_nil h'])) <;> simp -implicitDefEqProofs only [syms, symx, Nat.reduceAdd, Nat.reduceMul, Int.reduceLT, Int.reduceLE, Int.reduceAdd, Int.reduceSub, Int.reduceToNat, Int.reduceNeg, reduceIte, Nat.reduceGT, Nat.reduceLT, Nat.reduceLeDiff, code5_0, code5_1, code5_2, code5_3, code5_4, code5_5, ty5, hv7, hws])
  refine ok_sorted l _ _ (s7.lay _ _) (by omega) e2 _ (fun h' wb x ob => ?_)
  replace ob := ob.sl
  ((first | ((with_reducible refine KOpsX_call ?_ ?_ ?_); (· exact (by (try simp only [lay_size, List.length_cons, List.length_nil]); have := z.size; omega)); (· first | exact x | simpa only [lay_lay, lay_size, List.append_nil, List.length_cons, List.length_nil, Nat.add_zero] using x)) | skip); replace z := z.overW x (by (try simp only [lay_size, List.length_cons, List.length_nil]); omega); rw [lay_nil h'])
  have hvB : ∀ (h : Heap) (K : Value → Heap → Prop), valE (some wb) h K = K wb h := fun _ _ => rfl
  have hlb := fun (hh : Heap) => ob.lenA ds23 hh
  simp -implicitDefEqProofs only [syms, symx, Nat.reduceAdd, Nat.reduceMul, Int.reduceLT, Int.reduceLE, Int.reduceAdd, Int.reduceSub, Int.reduceToNat, Int.reduceNeg, reduceIte, Nat.reduceGT, Nat.reduceLT, Nat.reduceLeDiff, code5_0, code5_1, code5_2, code5_3, code5_4, code5_5, ty5, hvB, hlb, hws]
  repeat' ((first
    | ((with_reducible first | apply forkD | apply forkB | apply forkN | apply forkNP | apply forkNot) <;> intro _)
    | with_reducible_and_instances refine ixa_at ot ds23 sz39 (by omega) hr (fun p hp => ?_)
    | with_reducible_and_instances refine lda hp ag39 sz39 ?_
    | ((with_reducible_and_instances apply unop_not); (· rfl))
    | ((with_reducible refine ⟨z.grw.lay _ _, ?_⟩); (intro _ h' zz x _); (try simp only [lay_lay, List.append_nil] at x); (replace z := zz); (clear zz); rw [lay_nil h'])) <;> simp -implicitDefEqProofs only [syms, symx, Nat.reduceAdd, Nat.reduceMul, Int.reduceLT, Int.reduceLE, Int.reduceAdd, Int.reduceSub, Int.reduceToNat, Int.reduceNeg, reduceIte, Nat.reduceGT, Nat.reduceLT, Nat.reduceLeDiff, code5_0, code5_1, code5_2, code5_3, code5_4, code5_5, ty5, hvB, hlb, hws, beq_self_eq_true])
  trace_state
  exact hk _ (z.upW _ _ (by omega))
end Go.Proofs.Ytompindebndddaa
namespace Go.Proofs.Ytompindebndddaa
open Go.ChangeShapes Go.WideShapes Go.ChangeAt Go.RowKit Go.Am
theorem orderMerges_own : ownKnob Try.prog.godebug = none := by kernel_rfl
theorem orderMerges_laidOut : laidOutB Try.prog = true := by kernel_rfl
set_option maxRecDepth 100000 in
theorem orderMerges_ok (h : Heap) (args : List Value) (_ : h.low = h.size) (hs : ArgsShp Try.prog h 8 Try.f5.params.toList args) : Ok Try.prog tab ov 5 args h fun v h' => v = .bool true ∧ Ext h h' := by
  have hp : Try.f5.params.toList = [23, 23, 23] := by kernel_rfl
  have hs2 : ArgsShp Try.prog h 8 [23, 23, 23] args := argsShp_eq hp hs
  clear hs
  obtain ⟨x0, r0, rfl, h0, hs2⟩ := argsShp_cons hs2
  obtain ⟨x1, r1, rfl, h1, hs2⟩ := argsShp_cons hs2
  obtain ⟨x2, r2, rfl, h2, hs2⟩ := argsShp_cons hs2
  obtain rfl := argsShp_nil hs2
  obtain ⟨d0, f0⟩ := arg_atoms h0
  obtain ⟨d1, f1⟩ := arg_atoms h1
  obtain ⟨d2, f2⟩ := arg_atoms h2
  exact ok_orderMerges d0 d1 d2 x0 x1 x2 h f0 f1 f2 _ (fun h' x => ⟨rfl, x⟩)
set_option maxRecDepth 100000 in
theorem orderMerges_lifted (os : Os) (started : os.Started) (H : Type) (enc : TypeId × Value → H) :
    ReturnsInHanded {} Try.checked os 5 .any (Rows.orderMergesSpec.pre6 enc Try.prog Try.f5 Rows.orderMergesRow.domain false) (Rows.orderMergesSpec.post enc Try.prog Try.f5 Rows.orderMergesRow.apart Rows.orderMergesRow.fresh Rows.orderMergesRow.handsOn Rows.orderMergesRow.again) := by
  refine returnsInHanded_of_change_shaped (C := Try.checked) orderMerges_own started (by kernel_rfl) Try.func5
    (ChangeSpec.witness6 (enc := enc) (C := Try.checked) false ⟨#[], #[.slice none 0 0, .slice none 0 0, .slice none 0 0], []⟩ 12 (by kernel_rfl) (by kernel_rfl) (by kernel_rfl) (by kernel_rfl)) ?_
  intro W base args ds gs before hval hW _ _ hsh _
  exact law_contract (n := 8) (boolT := 4) mixed tab_fits rfl ov_ok rfl (of_decide_eq_true (by kernel_rfl)) orderMerges_laidOut rfl (by kernel_rfl) (by kernel_rfl) Try.underlying4 (by kernel_rfl) (by kernel_rfl)
    (fun ds hd => by
      have hp : Try.f5.params.size = 3 := by kernel_rfl
      rw [hp] at hd
      match ds, hd with
      | [_, _, _], _ => rfl)
    orderMerges_ok hval hW hsh
theorem orderMerges_holds : Rows.OrderMergesSaid :=
  OpenClaim.holds_of_wide 5 Try.f5 rfl rfl rfl rfl rfl rfl rfl ⟨rfl, rfl, rfl, rfl, rfl⟩ rfl rfl rfl rfl rfl (by kernel_rfl) Try.func5 (by kernel_rfl)
    (of_decide_eq_true (by kernel_rfl)) (by unfold Func.isWrapper; first | (rw [if_pos (by decide +kernel)]; kernel_rfl) | (rw [if_neg (by decide +kernel)]; exact ⟨rfl, rfl⟩))
    (fun os started H enc _ => orderMerges_lifted os started H enc)
#print axioms orderMerges_holds
end Go.Proofs.Ytompindebndddaa
