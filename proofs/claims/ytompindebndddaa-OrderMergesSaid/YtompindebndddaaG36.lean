/- Walks: lists compared; elements deleted Written out by fill2.py. No condition. -/
import Derived.Test.YtompindebndddaaG34
import Derived.Test.YtompindebndddaaG23
import Derived.Test.YtompindebndddaaZK6
namespace Go.Proofs.Ytompindebndddaa
open Go.Am
set_option linter.unusedSimpArgs false
set_option linter.unusedVariables false
set_option maxRecDepth 100000
set_option maxHeartbeats 0
theorem ok_sameAtoms (l m : List AtomD) (v u : Value) (h : Heap) (hl : Sl Rep.atom h v l) (hm : Sl Rep.atom h u m) (hs : l.length ≤ 1000) (hs2 : m.length ≤ 1000) (K : Value → Heap → Prop)
    (hk : ∀ h', Ext h h' → K (.bool (decide (l = m))) h') : Ok Try.prog tab ov 32 [v, u] h K := by
  rw [lay_nil h]
  have z := Ext.refl h
  have hln := fun (hh : Heap) => hl.lenA ds23 hh
  have hlm := fun (hh : Heap) => hm.lenA ds23 hh
  refine Ok.into rfl tab_fn32 body32 rfl (m := 24) rfl ?_
  simp -implicitDefEqProofs only [syms, symx, Nat.reduceAdd, Nat.reduceMul, Int.reduceLT, Int.reduceLE, Int.reduceAdd, Int.reduceSub, Int.reduceToNat, Int.reduceNeg, reduceIte, Nat.reduceGT, Nat.reduceLT, Nat.reduceLeDiff, code32_0, code32_1, ty32, hln, hlm]
  refine forkN (fun hne => ?_) (fun heq => ?_)
  · rw [decide_eq_false (show ¬ l = m from fun e => by subst e; exact hne rfl)] at hk
    simp -implicitDefEqProofs only [syms, symx, Nat.reduceAdd, Nat.reduceMul, Int.reduceLT, Int.reduceLE, Int.reduceAdd, Int.reduceSub, Int.reduceToNat, Int.reduceNeg, reduceIte, Nat.reduceGT, Nat.reduceLT, Nat.reduceLeDiff, code32_0, code32_1, ty32]
    repeat' ((first
      | ((with_reducible first | apply forkD | apply forkB | apply forkN | apply forkNP | apply forkNot) <;> intro _)
      | ((with_reducible_and_instances apply unop_not); (· rfl))
      | ((with_reducible refine ⟨z.grw.lay _ _, ?_⟩); (intro _ h' zz x _); (try simp only [lay_lay, List.append_nil] at x); (replace z := zz); (clear zz); rw [lay_nil h'])) <;> simp -implicitDefEqProofs only [syms, symx, Nat.reduceAdd, Nat.reduceMul, Int.reduceLT, Int.reduceLE, Int.reduceAdd, Int.reduceSub, Int.reduceToNat, Int.reduceNeg, reduceIte, Nat.reduceGT, Nat.reduceLT, Nat.reduceLeDiff, code32_0, code32_1, ty32])
    exact hk _ (z.upW _ _ (by omega))
  have hlen : l.length = m.length := by omega
  simp -implicitDefEqProofs only [syms, symx, Nat.reduceAdd, Nat.reduceMul, Int.reduceLT, Int.reduceLE, Int.reduceAdd, Int.reduceSub, Int.reduceToNat, Int.reduceNeg, reduceIte, Nat.reduceGT, Nat.reduceLT, Nat.reduceLeDiff, code32_0, code32_1, ty32]
  repeat' ((first
    | ((with_reducible first | apply forkD | apply forkB | apply forkN | apply forkNP | apply forkNot) <;> intro _)
    | ((with_reducible_and_instances apply unop_not); (· rfl))
    | ((with_reducible refine ⟨z.grw.lay _ _, ?_⟩); (intro _ h' zz x _); (try simp only [lay_lay, List.append_nil] at x); (replace z := zz); (clear zz); rw [lay_nil h'])) <;> simp -implicitDefEqProofs only [syms, symx, Nat.reduceAdd, Nat.reduceMul, Int.reduceLT, Int.reduceLE, Int.reduceAdd, Int.reduceSub, Int.reduceToNat, Int.reduceNeg, reduceIte, Nat.reduceGT, Nat.reduceLT, Nat.reduceLeDiff, code32_0, code32_1, ty32])
  obtain ⟨I1, hI1⟩ : ∃ I : Nat → Env → Heap → Prop, I = (fun n e h' => ∃ (i : Nat) (h1 : Heap), h' = h1.lay [] h1.low ∧ Ext h h1 ∧ (n = l.length - i ∧ i ≤ l.length ∧ l.take i = m.take i) ∧ ∃ J : Nat → Value, e = (v :: u :: J 2 :: J 3 :: J 4 :: .int .i64 i :: J 6 :: J 7 :: J 8 :: J 9 :: J 10 :: J 11 :: J 12 :: J 13 :: J 14 :: J 15 :: J 16 :: J 17 :: J 18 :: J 19 :: J 20 :: J 21 :: J 22 :: J 23 :: J 24 :: J 25 :: [])) := ⟨_, rfl⟩
  refine W_loopN I1 _ (by rw [hI1]; exact ⟨0, _, rfl, z, ⟨rfl, by omega, rfl⟩, junk (by kernel_rfl)⟩) ?_
  intro n e h' hin
  rw [hI1] at hin
  obtain ⟨i, h1', rfl, z, hinv, J, rfl⟩ := hin
  obtain ⟨rfl, hi, htk⟩ := hinv
  have hw : IntKind.i64.wrap ((i : Int) + 1) = ((i + 1 : Nat) : Int) := by rw [wrap_i64 (by omega) (by omega)]; omega
  simp -implicitDefEqProofs only [syms, symx, Nat.reduceAdd, Nat.reduceMul, Int.reduceLT, Int.reduceLE, Int.reduceAdd, Int.reduceSub, Int.reduceToNat, Int.reduceNeg, reduceIte, Nat.reduceGT, Nat.reduceLT, Nat.reduceLeDiff, code32_0, code32_1, ty32, hln]
  refine forkD (fun hlt => ?_) (fun hlt => ?_)
  rotate_left
  · rw [List.take_of_length_le (by omega), List.take_of_length_le (by omega)] at htk
    rw [decide_eq_true htk] at hk
    simp -implicitDefEqProofs only [syms, symx, Nat.reduceAdd, Nat.reduceMul, Int.reduceLT, Int.reduceLE, Int.reduceAdd, Int.reduceSub, Int.reduceToNat, Int.reduceNeg, reduceIte, Nat.reduceGT, Nat.reduceLT, Nat.reduceLeDiff, code32_0, code32_1, ty32]
    repeat' ((first
      | ((with_reducible first | apply forkD | apply forkB | apply forkN | apply forkNP | apply forkNot) <;> intro _)
      | ((with_reducible_and_instances apply unop_not); (· rfl))
      | ((with_reducible refine ⟨z.grw.lay _ _, ?_⟩); (intro _ h' zz x _); (try simp only [lay_lay, List.append_nil] at x); (replace z := zz); (clear zz); rw [lay_nil h'])) <;> simp -implicitDefEqProofs only [syms, symx, Nat.reduceAdd, Nat.reduceMul, Int.reduceLT, Int.reduceLE, Int.reduceAdd, Int.reduceSub, Int.reduceToNat, Int.reduceNeg, reduceIte, Nat.reduceGT, Nat.reduceLT, Nat.reduceLeDiff, code32_0, code32_1, ty32])
    exact hk _ (z.upW _ _ (by omega))
  obtain ⟨r, hr, hr'⟩ := amElem (l := l) (i := i) (by omega)
  obtain ⟨s, hs, hs'⟩ := amElem (l := m) (i := i) (by omega)
  simp -implicitDefEqProofs only [syms, symx, Nat.reduceAdd, Nat.reduceMul, Int.reduceLT, Int.reduceLE, Int.reduceAdd, Int.reduceSub, Int.reduceToNat, Int.reduceNeg, reduceIte, Nat.reduceGT, Nat.reduceLT, Nat.reduceLeDiff, code32_0, code32_1, ty32]
  repeat' ((first
    | ((with_reducible first | apply forkD | apply forkB | apply forkN | apply forkNP | apply forkNot) <;> intro _)
    | with_reducible_and_instances refine ixa_at (hl.mono z.inc) ds23 sz39 (by omega) hr (fun p hp => ?_)
    | with_reducible_and_instances refine ixa_at (hm.mono z.inc) ds23 sz39 (by omega) hs (fun p hp => ?_)
    | with_reducible_and_instances refine lda hp ag39 sz39 ?_
    | ((with_reducible_and_instances apply unop_not); (· rfl))
    | with_reducible refine D32_24 (z.upW _ _ (by omega)) ?_
    | ((with_reducible refine ⟨z.grw.lay _ _, ?_⟩); (intro _ h' zz x _); (try simp only [lay_lay, List.append_nil] at x); (replace z := zz); (clear zz); rw [lay_nil h'])) <;> simp -implicitDefEqProofs only [syms, symx, Nat.reduceAdd, Nat.reduceMul, Int.reduceLT, Int.reduceLE, Int.reduceAdd, Int.reduceSub, Int.reduceToNat, Int.reduceNeg, reduceIte, Nat.reduceGT, Nat.reduceLT, Nat.reduceLeDiff, code32_0, code32_1, ty32, bin_atomN])
  · have hne : ¬ r = s := by assumption
    rw [decide_eq_false (show ¬ l = m from fun e => by
      subst e
      rw [hr'] at hs'
      exact hne (Option.some.inj hs'))] at hk
    exact hk _ (z.upW _ _ (by omega))
  · have he : r = s := by assumption
    rw [hw]
    (rw [hI1]; with_reducible refine loopN_normal (m := _) ?_ ⟨i + 1, _, rfl, z, ⟨rfl, by omega, by rw [List.take_add_one, List.take_add_one, hr', hs', htk, he]⟩, junk (by kernel_rfl)⟩; omega)
theorem ok_indexAtomM (l : List AtomD) (v fv : Value) (pr : AtomD → Bool) (hb h : Heap) (z0 : Ext hb h) (hl : Sl Rep.atom h v l) (hn : l.length ≤ 1000) (hpf : ∀ x ∈ l, ∀ (hc : Heap) (K : Value → Heap → Prop), Ext hb hc → (∀ h', Ext hc h' → K (.bool (pr x)) h') → callE Try.prog tab ov [x.val] hc K fv) (K : Value → Heap → Prop)
    (hk : ∀ h', Ext h h' → K (.int .i64 (idxP pr l)) h') : Ok Try.prog tab ov 132 [v, fv] h K := by
  rw [lay_nil h]
  have z := Ext.refl h
  refine Ok.into rfl tab_fn132 body132 rfl (m := 17) rfl ?_
  simp -implicitDefEqProofs only [syms, symx, Nat.reduceAdd, Nat.reduceMul, Int.reduceLT, Int.reduceLE, Int.reduceAdd, Int.reduceSub, Int.reduceToNat, Int.reduceNeg, reduceIte, Nat.reduceGT, Nat.reduceLT, Nat.reduceLeDiff, code132_0, code132_1, ty132]
  repeat' ((first
    | ((with_reducible first | apply forkD | apply forkB | apply forkN | apply forkNP | apply forkNot) <;> intro _)
    | with_reducible_and_instances refine ln_rule hl ds23 ?_
    | ((with_reducible_and_instances apply unop_not); (· rfl))) <;> simp -implicitDefEqProofs only [syms, symx, Nat.reduceAdd, Nat.reduceMul, Int.reduceLT, Int.reduceLE, Int.reduceAdd, Int.reduceSub, Int.reduceToNat, Int.reduceNeg, reduceIte, Nat.reduceGT, Nat.reduceLT, Nat.reduceLeDiff, code132_0, code132_1, ty132])
  obtain ⟨I1, hI1⟩ : ∃ I : Nat → Env → Heap → Prop, I = (fun n e h' => ∃ (i : Nat) (h1 : Heap), h' = h1.lay [] h1.low ∧ Ext h h1 ∧ (n = l.length - i ∧ i ≤ l.length ∧ ∀ x ∈ l.take i, pr x = false) ∧ ∃ J : Nat → Value, e = (v :: fv :: J 2 :: J 3 :: J 4 :: J 5 :: J 6 :: .int .i64 l.length :: .int .i64 i :: J 9 :: J 10 :: J 11 :: J 12 :: J 13 :: J 14 :: J 15 :: J 16 :: J 17 :: J 18 :: [])) := ⟨_, rfl⟩
  refine W_loopN I1 _ (by rw [hI1]; exact ⟨0, _, rfl, z, ⟨rfl, by omega, by simp⟩, junk (by kernel_rfl)⟩) ?_
  intro n e h' hin
  rw [hI1] at hin
  obtain ⟨i, h1', rfl, z, hinv, J, rfl⟩ := hin
  obtain ⟨rfl, hi, hall⟩ := hinv
  have hw : IntKind.i64.wrap ((i : Int) + 1) = ((i + 1 : Nat) : Int) := by rw [wrap_i64 (by omega) (by omega)]; omega
  simp -implicitDefEqProofs only [syms, symx, Nat.reduceAdd, Nat.reduceMul, Int.reduceLT, Int.reduceLE, Int.reduceAdd, Int.reduceSub, Int.reduceToNat, Int.reduceNeg, reduceIte, Nat.reduceGT, Nat.reduceLT, Nat.reduceLeDiff, code132_0, code132_1, ty132]
  repeat' ((first
    | ((with_reducible first | apply forkD | apply forkB | apply forkN | apply forkNP | apply forkNot) <;> intro _)
    | with_reducible_and_instances refine ln_rule hl ds23 ?_
    | ((with_reducible_and_instances apply unop_not); (· rfl))) <;> simp -implicitDefEqProofs only [syms, symx, Nat.reduceAdd, Nat.reduceMul, Int.reduceLT, Int.reduceLE, Int.reduceAdd, Int.reduceSub, Int.reduceToNat, Int.reduceNeg, reduceIte, Nat.reduceGT, Nat.reduceLT, Nat.reduceLeDiff, code132_0, code132_1, ty132])
  rotate_left
  · rw [List.take_of_length_le (by omega)] at hall
    have := idx_none hall
    rw [this] at hk
    exact hk _ (z.upW _ _ (by omega))
  obtain ⟨r, hr, hr'⟩ := amElem (l := l) (i := i) (by assumption)
  repeat' ((first
    | ((with_reducible first | apply forkD | apply forkB | apply forkN | apply forkNP | apply forkNot) <;> intro _)
    | with_reducible_and_instances refine ixa_at (hl.mono z.inc) ds23 sz39 (by omega) hr (fun p hp => ?_)
    | with_reducible_and_instances refine lda hp ag39 sz39 ?_
    | ((with_reducible_and_instances apply unop_not); (· rfl))) <;> simp -implicitDefEqProofs only [syms, symx, Nat.reduceAdd, Nat.reduceMul, Int.reduceLT, Int.reduceLE, Int.reduceAdd, Int.reduceSub, Int.reduceToNat, Int.reduceNeg, reduceIte, Nat.reduceGT, Nat.reduceLT, Nat.reduceLeDiff, code132_0, code132_1, ty132])
  refine hpf r (List.mem_of_getElem? hr') _ _ ((z0.trans z).upW _ _ (by omega)) (fun h' x => ?_)
  ((skip); replace z := z.overW x (by (try simp only [lay_size, List.length_cons, List.length_nil]); omega); rw [lay_nil h'])
  cases hx : pr r
  rotate_left
  · simp -implicitDefEqProofs only [syms, symx, Nat.reduceAdd, Nat.reduceMul, Int.reduceLT, Int.reduceLE, Int.reduceAdd, Int.reduceSub, Int.reduceToNat, Int.reduceNeg, reduceIte, Nat.reduceGT, Nat.reduceLT, Nat.reduceLeDiff, code132_0, code132_1, ty132]
    have := idx_found hr' hall hx
    rw [this] at hk
    exact hk _ (z.upW _ _ (by omega))
  · simp -implicitDefEqProofs only [syms, symx, Nat.reduceAdd, Nat.reduceMul, Int.reduceLT, Int.reduceLE, Int.reduceAdd, Int.reduceSub, Int.reduceToNat, Int.reduceNeg, reduceIte, Nat.reduceGT, Nat.reduceLT, Nat.reduceLeDiff, code132_0, code132_1, ty132]
    rw [hw]
    (rw [hI1]; with_reducible refine loopN_normal (m := _) ?_ ⟨i + 1, _, rfl, z, ⟨rfl, by omega, take_all (i := i) (P := fun x : AtomD => pr x = false) hr' hall hx⟩, junk (by kernel_rfl)⟩; omega)
theorem ok_deleteFunc (s t : List AtomD) (fv : Value) (pr : AtomD → Bool) (A c : Nat) (h hs : Heap) (z : Ext h hs) (hA : h.size ≤ A) (q : Holds hs A (.row (rowA (s ++ t)) 39 false)) (hc : c = G * 11 + (s ++ t).length) (hn : (s ++ t).length ≤ 100000) (hsn : s.length ≤ 1000)
    (hpf : ∀ x ∈ s, ∀ (hc : Heap) (K : Value → Heap → Prop), Ext h hc → (∀ h', Ext hc h' → K (.bool (pr x)) h') → callE Try.prog tab ov [x.val] hc K fv) (K : Value → Heap → Prop)
    (hk : ∀ h' w, Ext h h' → OwnA h h' 39 w (s.filter (fun x => !pr x)) → K w h') : Ok Try.prog tab ov 94 [.slice (some ⟨A, 0, none⟩) s.length c, fv] hs K := by
  have hO : OwnA h hs 39 (.slice (some ⟨A, 0, none⟩) s.length c) s := own_part q hA (by omega) rfl hc
  rw [lay_nil hs]
  refine Ok.into rfl tab_fn94 body94 rfl (m := 40) rfl ?_
  simp -implicitDefEqProofs only [syms, symx, Nat.reduceAdd, Nat.reduceMul, Int.reduceLT, Int.reduceLE, Int.reduceAdd, Int.reduceSub, Int.reduceToNat, Int.reduceNeg, reduceIte, Nat.reduceGT, Nat.reduceLT, Nat.reduceLeDiff, code94_0, code94_1, code94_2, ty94]
  repeat' ((first
    | ((with_reducible first | apply forkD | apply forkB | apply forkN | apply forkNP | apply forkNot) <;> intro _)
    | with_reducible_and_instances refine ixa_at (hl.mono z.inc) ds23 sz39 (by omega) hr (fun p hp => ?_)
    | with_reducible_and_instances refine lda hp ag39 sz39 ?_
    | ((with_reducible_and_instances apply unop_not); (· rfl))) <;> simp -implicitDefEqProofs only [syms, symx, Nat.reduceAdd, Nat.reduceMul, Int.reduceLT, Int.reduceLE, Int.reduceAdd, Int.reduceSub, Int.reduceToNat, Int.reduceNeg, reduceIte, Nat.reduceGT, Nat.reduceLT, Nat.reduceLeDiff, code94_0, code94_1, code94_2, ty94])
  refine ok_indexAtomM s (.slice (some ⟨A, 0, none⟩) s.length c) fv pr h _ (z.upW _ _ (by omega)) (hO.sl.lay _ _) hsn hpf _ (fun h' x => ?_)
  replace z := (z.upW _ _ (by omega)).trans x
  replace q := (q.on _ _).ext x
  rw [lay_nil h']
  have hfi : idxP pr s = -1 ∧ (∀ x ∈ s, pr x = false) ∨ ∃ i : Nat, idxP pr s = i ∧ i < s.length ∧ pr (s.getD i noAtomD) = true ∧ ∀ x ∈ s.take i, pr x = false := idx_cases s
  simp -implicitDefEqProofs only [syms, symx, Nat.reduceAdd, Nat.reduceMul, Int.reduceLT, Int.reduceLE, Int.reduceAdd, Int.reduceSub, Int.reduceToNat, Int.reduceNeg, reduceIte, Nat.reduceGT, Nat.reduceLT, Nat.reduceLeDiff, code94_0, code94_1, code94_2, ty94]
  rcases hfi with ⟨e, hall⟩ | ⟨i0, e, hi0, hpi, hall⟩
  · rw [e]
    refine forkB (fun _ => ?_) (fun hh => absurd rfl hh)
    simp -implicitDefEqProofs only [syms, symx, Nat.reduceAdd, Nat.reduceMul, Int.reduceLT, Int.reduceLE, Int.reduceAdd, Int.reduceSub, Int.reduceToNat, Int.reduceNeg, reduceIte, Nat.reduceGT, Nat.reduceLT, Nat.reduceLeDiff, code94_0, code94_1, code94_2, ty94]
    repeat' ((first
      | ((with_reducible first | apply forkD | apply forkB | apply forkN | apply forkNP | apply forkNot) <;> intro _)
      | with_reducible_and_instances refine ixa_at (hl.mono z.inc) ds23 sz39 (by omega) hr (fun p hp => ?_)
      | with_reducible_and_instances refine lda hp ag39 sz39 ?_
      | ((with_reducible_and_instances apply unop_not); (· rfl))) <;> simp -implicitDefEqProofs only [syms, symx, Nat.reduceAdd, Nat.reduceMul, Int.reduceLT, Int.reduceLE, Int.reduceAdd, Int.reduceSub, Int.reduceToNat, Int.reduceNeg, reduceIte, Nat.reduceGT, Nat.reduceLT, Nat.reduceLeDiff, code94_0, code94_1, code94_2, ty94])
    rw [List.filter_eq_self.2 (fun x hx => by rw [hall x hx]; rfl)] at hk
    exact hk _ _ (z.upW _ _ (by omega)) (own_part (q.on _ _) hA (by omega) rfl hc)
  rw [e]
  refine forkB (fun hh => ?_) (fun _ => ?_)
  · exfalso
    omega
  have hwi : IntKind.i64.wrap ((i0 : Int) + 1) = ((i0 + 1 : Nat) : Int) := by rw [wrap_i64 (by omega) (by omega)]; omega
  simp -implicitDefEqProofs only [syms, symx, Nat.reduceAdd, Nat.reduceMul, Int.reduceLT, Int.reduceLE, Int.reduceAdd, Int.reduceSub, Int.reduceToNat, Int.reduceNeg, reduceIte, Nat.reduceGT, Nat.reduceLT, Nat.reduceLeDiff, code94_0, code94_1, code94_2, ty94, hwi]
  repeat' ((first
    | ((with_reducible first | apply forkD | apply forkB | apply forkN | apply forkNP | apply forkNot) <;> intro _)
    | with_reducible_and_instances refine ixa_at (hl.mono z.inc) ds23 sz39 (by omega) hr (fun p hp => ?_)
    | with_reducible_and_instances refine lda hp ag39 sz39 ?_
    | ((with_reducible_and_instances apply unop_not); (· rfl))) <;> simp -implicitDefEqProofs only [syms, symx, Nat.reduceAdd, Nat.reduceMul, Int.reduceLT, Int.reduceLE, Int.reduceAdd, Int.reduceSub, Int.reduceToNat, Int.reduceNeg, reduceIte, Nat.reduceGT, Nat.reduceLT, Nat.reduceLeDiff, code94_0, code94_1, code94_2, ty94, hwi])
  obtain ⟨I1, hI1⟩ : ∃ I : Nat → Env → Heap → Prop, I = (fun n e h' => ∃ (i j : Nat) (cur : List AtomD) (h1 : Heap), h' = h1.lay [] h1.low ∧ Ext h h1 ∧ (n = s.length - j ∧ i < j ∧ j ≤ s.length ∧ cur.length = (s ++ t).length ∧ cur.take i = (s.take j).filter (fun x => !pr x) ∧ (∀ p, j ≤ p → cur.getD p noAtomD = (s ++ t).getD p noAtomD) ∧ Holds h1 A (.row (rowA cur) 39 false)) ∧ ∃ J : Nat → Value, e = (.slice (some ⟨A, 0, none⟩) s.length c :: fv :: J 2 :: J 3 :: J 4 :: .int .i64 i :: .int .i64 j :: J 7 :: J 8 :: J 9 :: J 10 :: J 11 :: J 12 :: J 13 :: J 14 :: J 15 :: J 16 :: J 17 :: J 18 :: J 19 :: J 20 :: J 21 :: J 22 :: J 23 :: J 24 :: J 25 :: J 26 :: J 27 :: J 28 :: J 29 :: J 30 :: J 31 :: J 32 :: J 33 :: J 34 :: J 35 :: J 36 :: J 37 :: J 38 :: J 39 :: J 40 :: J 41 :: [])) := ⟨_, rfl⟩
  refine W_loopN I1 _ (by rw [hI1]; exact ⟨i0, i0 + 1, s ++ t, _, rfl, z, ⟨rfl, by omega, by omega, rfl, del_start hi0 hpi hall, fun _ _ => rfl, q⟩, junk (by kernel_rfl)⟩) ?_
  intro n e h' hin
  rw [hI1] at hin
  obtain ⟨i, j, cur, h1', rfl, z, hinv, J, rfl⟩ := hin
  clear q
  obtain ⟨rfl, hij, hjs, hcl, htk, hce, q⟩ := hinv
  have hsl : s.length ≤ (s ++ t).length := by rw [List.length_append]; omega
  have hwj : IntKind.i64.wrap ((j : Int) + 1) = ((j + 1 : Nat) : Int) := by rw [wrap_i64 (by omega) (by omega)]; omega
  have hwi2 : IntKind.i64.wrap ((i : Int) + 1) = ((i + 1 : Nat) : Int) := by rw [wrap_i64 (by omega) (by omega)]; omega
  simp -implicitDefEqProofs only [syms, symx, Nat.reduceAdd, Nat.reduceMul, Int.reduceLT, Int.reduceLE, Int.reduceAdd, Int.reduceSub, Int.reduceToNat, Int.reduceNeg, reduceIte, Nat.reduceGT, Nat.reduceLT, Nat.reduceLeDiff, code94_0, code94_1, code94_2, ty94]
  refine forkD (fun hlt => ?_) (fun hlt => ?_)
  rotate_left
  · have hjs2 : j = s.length := by omega
    have his : i ≤ s.length := by omega
    simp -implicitDefEqProofs only [syms, symx, Nat.reduceAdd, Nat.reduceMul, Int.reduceLT, Int.reduceLE, Int.reduceAdd, Int.reduceSub, Int.reduceToNat, Int.reduceNeg, reduceIte, Nat.reduceGT, Nat.reduceLT, Nat.reduceLeDiff, code94_0, code94_1, code94_2, ty94]
    rw [hc, open_from ds23 sz39 his hsl (by omega), ← hc]
    obtain ⟨C3, hC3⟩ : ∃ C3, C3 = G * 11 + ((s ++ t).length - i) := ⟨_, rfl⟩
    rw [← hC3]
    simp -implicitDefEqProofs only [syms, symx, Nat.reduceAdd, Nat.reduceMul, Int.reduceLT, Int.reduceLE, Int.reduceAdd, Int.reduceSub, Int.reduceToNat, Int.reduceNeg, reduceIte, Nat.reduceGT, Nat.reduceLT, Nat.reduceLeDiff, code94_0, code94_1, code94_2, ty94, w_clear]
    refine clear_mid q ds23 tab_info39 (by omega) (fun h3 q3 c3 => ?_)
    replace z := z.stepW c3 hA (by omega)
    rw [lay_nil h3]
    clear q
    simp -implicitDefEqProofs only [syms, symx, Nat.reduceAdd, Nat.reduceMul, Int.reduceLT, Int.reduceLE, Int.reduceAdd, Int.reduceSub, Int.reduceToNat, Int.reduceNeg, reduceIte, Nat.reduceGT, Nat.reduceLT, Nat.reduceLeDiff, code94_0, code94_1, code94_2, ty94]
    rw [hc, open_to ds23 sz39 his hsl (by omega), ← hc]
    simp -implicitDefEqProofs only [syms, symx, Nat.reduceAdd, Nat.reduceMul, Int.reduceLT, Int.reduceLE, Int.reduceAdd, Int.reduceSub, Int.reduceToNat, Int.reduceNeg, reduceIte, Nat.reduceGT, Nat.reduceLT, Nat.reduceLeDiff, code94_0, code94_1, code94_2, ty94]
    repeat' ((first
      | ((with_reducible first | apply forkD | apply forkB | apply forkN | apply forkNP | apply forkNot) <;> intro _)
      | with_reducible_and_instances refine ixa_at (hl.mono z.inc) ds23 sz39 (by omega) hr (fun p hp => ?_)
      | with_reducible_and_instances refine lda hp ag39 sz39 ?_
      | ((with_reducible_and_instances apply unop_not); (· rfl))) <;> simp -implicitDefEqProofs only [syms, symx, Nat.reduceAdd, Nat.reduceMul, Int.reduceLT, Int.reduceLE, Int.reduceAdd, Int.reduceSub, Int.reduceToNat, Int.reduceNeg, reduceIte, Nat.reduceGT, Nat.reduceLT, Nat.reduceLeDiff, code94_0, code94_1, code94_2, ty94])
    rw [htk, hjs2, List.take_length] at q3
    have hlen : i = (s.filter (fun x => !pr x)).length := by
      have := congrArg List.length htk
      rw [List.length_take, hjs2, List.take_length] at this
      omega
    have hlen2 : (s.filter (fun x => !pr x) ++ (List.replicate (s.length - i) noAtomD ++ cur.drop (i + (s.length - i)))).length = (s ++ t).length := by
      rw [List.length_append, List.length_append, List.length_replicate, List.length_drop]
      omega
    exact hk _ _ (z.upW _ _ (by omega)) (own_part (q3.on _ _) hA (by omega) hlen (by rw [hlen2]; exact hc))
  have hin : (0 : Int) ≤ (j : Int) ∧ (j : Int) < (s.length : Int) := by omega
  have hini : (0 : Int) ≤ (i : Int) ∧ (i : Int) < (s.length : Int) := by omega
  have hld := fun (bs : List Blk) (w : Nat) => load_atom (bs := bs) (w := w) q (getD_at (l := cur) (i := j) (by omega))
  rw [hce _ (by omega), getD_app (by omega)] at hld
  simp -implicitDefEqProofs only [syms, symx, Nat.reduceAdd, Nat.reduceMul, Int.reduceLT, Int.reduceLE, Int.reduceAdd, Int.reduceSub, Int.reduceToNat, Int.reduceNeg, reduceIte, Nat.reduceGT, Nat.reduceLT, Nat.reduceLeDiff, code94_0, code94_1, code94_2, ty94, hin, and_self, if_true, ↓hld, valE_atom]
  refine store_laid sz39 rfl ?_
  simp -implicitDefEqProofs only [syms, symx, Nat.reduceAdd, Nat.reduceMul, Int.reduceLT, Int.reduceLE, Int.reduceAdd, Int.reduceSub, Int.reduceToNat, Int.reduceNeg, reduceIte, Nat.reduceGT, Nat.reduceLT, Nat.reduceLeDiff, code94_0, code94_1, code94_2, ty94, ↓cut_atom, agg_atom, valE_atom]
  repeat' ((first
    | ((with_reducible first | apply forkD | apply forkB | apply forkN | apply forkNP | apply forkNot) <;> intro _)
    | with_reducible_and_instances refine ixa_at (hl.mono z.inc) ds23 sz39 (by omega) hr (fun p hp => ?_)
    | with_reducible_and_instances refine lda hp ag39 sz39 ?_
    | ((with_reducible_and_instances apply unop_not); (· rfl))) <;> simp -implicitDefEqProofs only [syms, symx, Nat.reduceAdd, Nat.reduceMul, Int.reduceLT, Int.reduceLE, Int.reduceAdd, Int.reduceSub, Int.reduceToNat, Int.reduceNeg, reduceIte, Nat.reduceGT, Nat.reduceLT, Nat.reduceLeDiff, code94_0, code94_1, code94_2, ty94, ↓cut_atom, agg_atom, valE_atom])
  refine hpf _ (by have := List.mem_of_getElem? (getD_at (l := s) (i := j) (by omega)); exact this) _ _ (z.upW _ _ (by omega)) (fun h' x => ?_)
  have q1 := Holds.top (i := 0) x rfl
  ((skip); replace z := z.overW x (by (try simp only [lay_size, List.length_cons, List.length_nil]); omega); (try replace q := q.over x); rw [lay_nil h'])
  have hcd := del_drop (pr := pr) (s := s) (j := j) (by omega)
  have hck := del_keep (pr := pr) (s := s) (j := j) (by omega)
  have hce2 : ∀ p, j + 1 ≤ p → cur.getD p noAtomD = (s ++ t).getD p noAtomD := fun p hp => hce p (by omega)
  cases hx : pr (s.getD j noAtomD)
  rotate_left
  · simp -implicitDefEqProofs only [syms, symx, Nat.reduceAdd, Nat.reduceMul, Int.reduceLT, Int.reduceLE, Int.reduceAdd, Int.reduceSub, Int.reduceToNat, Int.reduceNeg, reduceIte, Nat.reduceGT, Nat.reduceLT, Nat.reduceLeDiff, code94_0, code94_1, code94_2, ty94]
    repeat' ((first
      | ((with_reducible first | apply forkD | apply forkB | apply forkN | apply forkNP | apply forkNot) <;> intro _)
      | with_reducible_and_instances refine ixa_at (hl.mono z.inc) ds23 sz39 (by omega) hr (fun p hp => ?_)
      | with_reducible_and_instances refine lda hp ag39 sz39 ?_
      | ((with_reducible_and_instances apply unop_not); (· rfl))) <;> simp -implicitDefEqProofs only [syms, symx, Nat.reduceAdd, Nat.reduceMul, Int.reduceLT, Int.reduceLE, Int.reduceAdd, Int.reduceSub, Int.reduceToNat, Int.reduceNeg, reduceIte, Nat.reduceGT, Nat.reduceLT, Nat.reduceLeDiff, code94_0, code94_1, code94_2, ty94])
    rw [hwj]
    (rw [hI1]; with_reducible refine loopN_normal (m := _) ?_ ⟨i, j + 1, cur, _, rfl, z, ⟨rfl, by omega, by omega, hcl, by rw [hcd hx]; exact htk, hce2, q⟩, junk (by kernel_rfl)⟩; omega)
  simp -implicitDefEqProofs only [syms, symx, Nat.reduceAdd, Nat.reduceMul, Int.reduceLT, Int.reduceLE, Int.reduceAdd, Int.reduceSub, Int.reduceToNat, Int.reduceNeg, reduceIte, Nat.reduceGT, Nat.reduceLT, Nat.reduceLeDiff, code94_0, code94_1, code94_2, ty94]
  repeat' ((first
    | ((with_reducible first | apply forkD | apply forkB | apply forkN | apply forkNP | apply forkNot) <;> intro _)
    | with_reducible_and_instances refine ixa_at (hl.mono z.inc) ds23 sz39 (by omega) hr (fun p hp => ?_)
    | with_reducible_and_instances refine lda hp ag39 sz39 ?_
    | ((with_reducible_and_instances apply unop_not); (· rfl))) <;> simp -implicitDefEqProofs only [syms, symx, Nat.reduceAdd, Nat.reduceMul, Int.reduceLT, Int.reduceLE, Int.reduceAdd, Int.reduceSub, Int.reduceToNat, Int.reduceNeg, reduceIte, Nat.reduceGT, Nat.reduceLT, Nat.reduceLeDiff, code94_0, code94_1, code94_2, ty94])
  simp -implicitDefEqProofs only [syms, symx, Nat.reduceAdd, Nat.reduceMul, Int.reduceLT, Int.reduceLE, Int.reduceAdd, Int.reduceSub, Int.reduceToNat, Int.reduceNeg, reduceIte, Nat.reduceGT, Nat.reduceLT, Nat.reduceLeDiff, code94_0, code94_1, code94_2, ty94, q1.lay, ↓cut_atom, agg_atom, valE_atom, hini, and_self, if_true]
  repeat' ((first
    | ((with_reducible first | apply forkD | apply forkB | apply forkN | apply forkNP | apply forkNot) <;> intro _)
    | with_reducible_and_instances refine ixa_at (hl.mono z.inc) ds23 sz39 (by omega) hr (fun p hp => ?_)
    | with_reducible_and_instances refine lda hp ag39 sz39 ?_
    | ((with_reducible_and_instances apply unop_not); (· rfl))) <;> simp -implicitDefEqProofs only [syms, symx, Nat.reduceAdd, Nat.reduceMul, Int.reduceLT, Int.reduceLE, Int.reduceAdd, Int.reduceSub, Int.reduceToNat, Int.reduceNeg, reduceIte, Nat.reduceGT, Nat.reduceLT, Nat.reduceLeDiff, code94_0, code94_1, code94_2, ty94, q1.lay, ↓cut_atom, agg_atom, valE_atom, hini, and_self, if_true])
  have hce3 : ∀ p, j + 1 ≤ p → (cur.set i (s.getD j noAtomD)).getD p noAtomD = (s ++ t).getD p noAtomD := by
    intro p hp
    have hne : i ≠ p := by omega
    rw [amGetD_set_ne hne]
    exact hce2 p hp
  have hz := z.size
  refine store_atom q sz39 (by omega) (fun h3 q3 c3 => ?_)
  replace z := z.stepW c3 hA (by omega)
  rw [lay_nil h3]
  clear q q1
  simp -implicitDefEqProofs only [syms, symx, Nat.reduceAdd, Nat.reduceMul, Int.reduceLT, Int.reduceLE, Int.reduceAdd, Int.reduceSub, Int.reduceToNat, Int.reduceNeg, reduceIte, Nat.reduceGT, Nat.reduceLT, Nat.reduceLeDiff, code94_0, code94_1, code94_2, ty94]
  repeat' ((first
    | ((with_reducible first | apply forkD | apply forkB | apply forkN | apply forkNP | apply forkNot) <;> intro _)
    | with_reducible_and_instances refine ixa_at (hl.mono z.inc) ds23 sz39 (by omega) hr (fun p hp => ?_)
    | with_reducible_and_instances refine lda hp ag39 sz39 ?_
    | ((with_reducible_and_instances apply unop_not); (· rfl))) <;> simp -implicitDefEqProofs only [syms, symx, Nat.reduceAdd, Nat.reduceMul, Int.reduceLT, Int.reduceLE, Int.reduceAdd, Int.reduceSub, Int.reduceToNat, Int.reduceNeg, reduceIte, Nat.reduceGT, Nat.reduceLT, Nat.reduceLeDiff, code94_0, code94_1, code94_2, ty94])
  rw [hwi2, hwj]
  (rw [hI1]; with_reducible refine loopN_normal (m := _) ?_ ⟨i + 1, j + 1, cur.set i (s.getD j noAtomD), _, rfl, z, ⟨rfl, by omega, by omega, by rw [List.length_set]; exact hcl, by rw [take_set (by omega), hck hx, htk], hce3, q3⟩, junk (by kernel_rfl)⟩; omega)
end Go.Proofs.Ytompindebndddaa
namespace Go.Proofs.Ytompindebndddaa
open Go.Am
set_option linter.unusedSimpArgs false
set_option linter.unusedVariables false
set_option maxRecDepth 100000
set_option maxHeartbeats 0
theorem ok_minus1 (s : List AtomD) (w : Value) (a : AtomD) (B : Nat) (h : Heap) (hl : Sl Rep.atom h w s) (hs : AscD s) (hn : s.length ≤ 1000) (hlt : ∀ x ∈ s, x.light = true) (ha : a.light = true) (q0 : Holds h B (.row [w] 23 false)) (K : Value → Heap → Prop)
    (hk : ∀ h', Ext h h' → K (.bool (hasA s a)) h') : Ok Try.prog tab ov 95 [a.val, .pointer (some ⟨B, 0, none⟩)] h K := by
  rw [lay_nil h]
  have z := Ext.refl h
  have hva : ∀ (h : Heap) (K : Value → Heap → Prop), valE (some w) h K = K w h := fun _ _ => rfl
  refine Ok.into rfl tab_fn95 body95 rfl (m := 11) rfl ?_
  simp -implicitDefEqProofs only [syms, symx, Nat.reduceAdd, Nat.reduceMul, Int.reduceLT, Int.reduceLE, Int.reduceAdd, Int.reduceSub, Int.reduceToNat, Int.reduceNeg, reduceIte, Nat.reduceGT, Nat.reduceLT, Nat.reduceLeDiff, code95_0, ty95, q0.lay, hva, cells_atom, ↓cut_atom, agg_atom, valE_atom]
  repeat' ((first
    | ((with_reducible first | apply forkD | apply forkB | apply forkN | apply forkNP | apply forkNot) <;> intro _)
    | ((with_reducible_and_instances apply unop_not); (· rfl))) <;> simp -implicitDefEqProofs only [syms, symx, Nat.reduceAdd, Nat.reduceMul, Int.reduceLT, Int.reduceLE, Int.reduceAdd, Int.reduceSub, Int.reduceToNat, Int.reduceNeg, reduceIte, Nat.reduceGT, Nat.reduceLT, Nat.reduceLeDiff, code95_0, ty95, q0.lay, hva, cells_atom, ↓cut_atom, agg_atom, valE_atom])
  refine ok_place s a w _ (hl.lay _ _) hs hn hlt ha _ (fun h' i x hp => ?_)
  ((skip); replace z := z.overW x (by (try simp only [lay_size, List.length_cons, List.length_nil]); omega); rw [lay_nil h'])
  generalize hasA s a = b at hk ⊢
  cases b
  all_goals
    simp -implicitDefEqProofs only [syms, symx, Nat.reduceAdd, Nat.reduceMul, Int.reduceLT, Int.reduceLE, Int.reduceAdd, Int.reduceSub, Int.reduceToNat, Int.reduceNeg, reduceIte, Nat.reduceGT, Nat.reduceLT, Nat.reduceLeDiff, code95_0, ty95]
    repeat' ((first
      | ((with_reducible first | apply forkD | apply forkB | apply forkN | apply forkNP | apply forkNot) <;> intro _)
      | ((with_reducible_and_instances apply unop_not); (· rfl))) <;> simp -implicitDefEqProofs only [syms, symx, Nat.reduceAdd, Nat.reduceMul, Int.reduceLT, Int.reduceLE, Int.reduceAdd, Int.reduceSub, Int.reduceToNat, Int.reduceNeg, reduceIte, Nat.reduceGT, Nat.reduceLT, Nat.reduceLeDiff, code95_0, ty95])
    exact hk _ (z.upW _ _ (by omega))
theorem ok_deleteNil (v fv : Value) (h : Heap) (hl : Sl Rep.atom h v []) (K : Value → Heap → Prop) (hk : ∀ h', Ext h h' → K v h') : Ok Try.prog tab ov 94 [v, fv] h K := by
  rw [lay_nil h]
  have z := Ext.refl h
  have hva : ∀ (h : Heap) (K : Value → Heap → Prop), valE (some v) h K = K v h := fun _ _ => rfl
  refine Ok.into rfl tab_fn94 body94 rfl (m := 40) rfl ?_
  simp -implicitDefEqProofs only [syms, symx, Nat.reduceAdd, Nat.reduceMul, Int.reduceLT, Int.reduceLE, Int.reduceAdd, Int.reduceSub, Int.reduceToNat, Int.reduceNeg, reduceIte, Nat.reduceGT, Nat.reduceLT, Nat.reduceLeDiff, code94_0, code94_1, code94_2, ty94, hva]
  repeat' ((first
    | ((with_reducible first | apply forkD | apply forkB | apply forkN | apply forkNP | apply forkNot) <;> intro _)
    | ((with_reducible_and_instances apply unop_not); (· rfl))) <;> simp -implicitDefEqProofs only [syms, symx, Nat.reduceAdd, Nat.reduceMul, Int.reduceLT, Int.reduceLE, Int.reduceAdd, Int.reduceSub, Int.reduceToNat, Int.reduceNeg, reduceIte, Nat.reduceGT, Nat.reduceLT, Nat.reduceLeDiff, code94_0, code94_1, code94_2, ty94, hva])
  refine ok_indexAtomM [] v fv (fun _ => false) h _ (z.upW _ _ (by omega)) (hl.lay _ _) (by simp) (fun x hx => absurd hx (by simp)) _ (fun h' x => ?_)
  ((skip); replace z := z.overW x (by (try simp only [lay_size, List.length_cons, List.length_nil]); omega); rw [lay_nil h'])
  rw [show idxP (fun _ : AtomD => false) [] = -1 from rfl]
  simp -implicitDefEqProofs only [syms, symx, Nat.reduceAdd, Nat.reduceMul, Int.reduceLT, Int.reduceLE, Int.reduceAdd, Int.reduceSub, Int.reduceToNat, Int.reduceNeg, reduceIte, Nat.reduceGT, Nat.reduceLT, Nat.reduceLeDiff, code94_0, code94_1, code94_2, ty94, hva, beq_self_eq_true, forkE_true, Int.reduceBEq]
  exact hk _ (z.upW _ _ (by omega))
theorem ok_minus (l m : List AtomD) (v u : Value) (h : Heap) (hl : Sl Rep.atom h v l) (hm : Sl Rep.atom h u m) (hn : l.length ≤ 900) (hn2 : m.length ≤ 900) (hlt : ∀ x ∈ l, x.light = true) (hlm : ∀ x ∈ m, x.light = true) (K : Value → Heap → Prop)
    (hk : ∀ h' w, Ext h h' → OwnA h h' 39 w ((sortA l).filter (fun x => !hasA m x)) → K w h') : Ok Try.prog tab ov 34 [v, u] h K := by
  rw [lay_nil h]
  have z := Ext.refl h
  refine Ok.into rfl tab_fn34 body34 rfl (m := 10) rfl ?_
  simp -implicitDefEqProofs only [syms, symx, Nat.reduceAdd, Nat.reduceMul, Int.reduceLT, Int.reduceLE, Int.reduceAdd, Int.reduceSub, Int.reduceToNat, Int.reduceNeg, reduceIte, Nat.reduceGT, Nat.reduceLT, Nat.reduceLeDiff, code34_0, ty34]
  repeat' ((first
    | ((with_reducible first | apply forkD | apply forkB | apply forkN | apply forkNP | apply forkNot) <;> intro _)
    | ((with_reducible_and_instances apply unop_not); (· rfl))) <;> simp -implicitDefEqProofs only [syms, symx, Nat.reduceAdd, Nat.reduceMul, Int.reduceLT, Int.reduceLE, Int.reduceAdd, Int.reduceSub, Int.reduceToNat, Int.reduceNeg, reduceIte, Nat.reduceGT, Nat.reduceLT, Nat.reduceLeDiff, code34_0, ty34])
  refine ok_made m u _ (hm.lay _ _) hn2 hlm _ (fun h' w x ho => ?_)
  ((skip); replace z := z.overW x (by (try simp only [lay_size, List.length_cons, List.length_nil]); omega); rw [lay_nil h'])
  have hva : ∀ (h : Heap) (K : Value → Heap → Prop), valE (some w) h K = K w h := fun _ _ => rfl
  simp -implicitDefEqProofs only [syms, symx, Nat.reduceAdd, Nat.reduceMul, Int.reduceLT, Int.reduceLE, Int.reduceAdd, Int.reduceSub, Int.reduceToNat, Int.reduceNeg, reduceIte, Nat.reduceGT, Nat.reduceLT, Nat.reduceLeDiff, code34_0, ty34, hva]
  refine store_laid1 sz23 (sl_cells ho.sl) ho.sl.one ?_
  simp -implicitDefEqProofs only [syms, symx, Nat.reduceAdd, Nat.reduceMul, Int.reduceLT, Int.reduceLE, Int.reduceAdd, Int.reduceSub, Int.reduceToNat, Int.reduceNeg, reduceIte, Nat.reduceGT, Nat.reduceLT, Nat.reduceLeDiff, code34_0, ty34, hva]
  repeat' ((first
    | ((with_reducible first | apply forkD | apply forkB | apply forkN | apply forkNP | apply forkNot) <;> intro _)
    | ((with_reducible_and_instances apply unop_not); (· rfl))) <;> simp -implicitDefEqProofs only [syms, symx, Nat.reduceAdd, Nat.reduceMul, Int.reduceLT, Int.reduceLE, Int.reduceAdd, Int.reduceSub, Int.reduceToNat, Int.reduceNeg, reduceIte, Nat.reduceGT, Nat.reduceLT, Nat.reduceLeDiff, code34_0, ty34, hva])
  have zb : Ext h (h'.lay [Blk.row [w] 23 false] (min h'.low (h'.size + 0))) := z.upW _ _ (by have := z.size; omega)
  have q0 : Holds (h'.lay [Blk.row [w] 23 false] (min h'.low (h'.size + 0))) (h'.size + 0) (.row [w] 23 false) := ⟨by rw [lay_size]; simp, by rw [lay_get]; rfl⟩
  have hos : Sl Rep.atom (h'.lay [Blk.row [w] 23 false] (min h'.low (h'.size + 0))) w (sortA m) := ho.sl.lay _ _
  generalize hH : h'.lay [Blk.row [w] 23 false] (min h'.low (h'.size + 0)) = H1 at zb q0 hos ⊢
  refine ok_made l v _ (hl.mono zb.inc) hn hlt _ (fun h2' w2 x ho2 => ?_)
  have hva2 : ∀ (h : Heap) (K : Value → Heap → Prop), valE (some w2) h K = K w2 h := fun _ _ => rfl
  rw [lay_nil h2']
  simp -implicitDefEqProofs only [syms, symx, Nat.reduceAdd, Nat.reduceMul, Int.reduceLT, Int.reduceLE, Int.reduceAdd, Int.reduceSub, Int.reduceToNat, Int.reduceNeg, reduceIte, Nat.reduceGT, Nat.reduceLT, Nat.reduceLeDiff, code34_0, ty34, hva2]
  repeat' ((first
    | ((with_reducible first | apply forkD | apply forkB | apply forkN | apply forkNP | apply forkNot) <;> intro _)
    | ((with_reducible_and_instances apply unop_not); (· rfl))) <;> simp -implicitDefEqProofs only [syms, symx, Nat.reduceAdd, Nat.reduceMul, Int.reduceLT, Int.reduceLE, Int.reduceAdd, Int.reduceSub, Int.reduceToNat, Int.reduceNeg, reduceIte, Nat.reduceGT, Nat.reduceLT, Nat.reduceLeDiff, code34_0, ty34, hva2])
  have hsz := zb.size
  have hfe : (fun x => !hasA (sortA m) x) = fun x => !hasA m x := funext fun x => by rw [hasA_sort]
  rcases ho2 with ⟨e, ho2⟩ | ⟨A, t, rfl, q, hA, hle⟩
  · replace z := (zb.trans x)
    refine ok_deleteNil w2 _ _ (ho2.lay _ _).sl _ (fun h' x => ?_)
    have ho3 := ho2.over x
    ((skip); replace z := z.overW x (by (try simp only [lay_size, List.length_cons, List.length_nil]); omega); rw [lay_nil h'])
    simp -implicitDefEqProofs only [syms, symx, Nat.reduceAdd, Nat.reduceMul, Int.reduceLT, Int.reduceLE, Int.reduceAdd, Int.reduceSub, Int.reduceToNat, Int.reduceNeg, reduceIte, Nat.reduceGT, Nat.reduceLT, Nat.reduceLeDiff, code34_0, ty34, hva2]
    repeat' ((first
      | ((with_reducible first | apply forkD | apply forkB | apply forkN | apply forkNP | apply forkNot) <;> intro _)
      | ((with_reducible_and_instances apply unop_not); (· rfl))) <;> simp -implicitDefEqProofs only [syms, symx, Nat.reduceAdd, Nat.reduceMul, Int.reduceLT, Int.reduceLE, Int.reduceAdd, Int.reduceSub, Int.reduceToNat, Int.reduceNeg, reduceIte, Nat.reduceGT, Nat.reduceLT, Nat.reduceLeDiff, code34_0, ty34, hva2])
    rw [e] at hk
    exact hk _ _ (z.upW _ _ (by omega)) (.inl ⟨rfl, ho3.lay _ _⟩)
  · have hll := sortA_length l
    have key := fun K hk => ok_deleteFunc (sortA l) t (.func (.func 95) ⟨[]⟩ ⟨[.pointer (some ⟨h'.size + 0, 0, none⟩)]⟩) (fun x => hasA (sortA m) x) A _ H1 (h2'.lay [] h2'.low) (x.upW _ _ (by omega)) hA (q.on _ _) rfl hle (by omega) (fun y hy hc K' xe hk' => by
      rw [callE_clos]
      exact ok_minus1 (sortA m) w y _ hc (hos.mono xe.inc) (sortA_of m).asc (by have := sortA_length m; omega) (sortA_light hlm) (sortA_light hlt y hy) (q0.ext xe) K' hk') K hk
    rw [hfe] at key
    refine key _ (fun h' w3 x ho => ?_)
    replace z := zb.trans x
    replace ho := ho.down hsz
    have hva3 : ∀ (h : Heap) (K : Value → Heap → Prop), valE (some w3) h K = K w3 h := fun _ _ => rfl
    rw [lay_nil h']
    simp -implicitDefEqProofs only [syms, symx, Nat.reduceAdd, Nat.reduceMul, Int.reduceLT, Int.reduceLE, Int.reduceAdd, Int.reduceSub, Int.reduceToNat, Int.reduceNeg, reduceIte, Nat.reduceGT, Nat.reduceLT, Nat.reduceLeDiff, code34_0, ty34, hva3]
    repeat' ((first
      | ((with_reducible first | apply forkD | apply forkB | apply forkN | apply forkNP | apply forkNot) <;> intro _)
      | ((with_reducible_and_instances apply unop_not); (· rfl))) <;> simp -implicitDefEqProofs only [syms, symx, Nat.reduceAdd, Nat.reduceMul, Int.reduceLT, Int.reduceLE, Int.reduceAdd, Int.reduceSub, Int.reduceToNat, Int.reduceNeg, reduceIte, Nat.reduceGT, Nat.reduceLT, Nat.reduceLeDiff, code34_0, ty34, hva3])
    exact hk _ _ (z.upW _ _ (by omega)) (ho.lay _ _)
theorem ok_merge (ls : List (List AtomD)) (v : Value) (h : Heap) (hl : Sl Rep.atoms h v ls) (hn : ls.length ≤ 100) (hn2 : ls.flatten.length ≤ 900) (hlt : ∀ x ∈ ls.flatten, x.light = true) (K : Value → Heap → Prop)
    (hk : ∀ h' w, Ext h h' → OwnA h h' 39 w (sortA ls.flatten) → K w h') : Ok Try.prog tab ov 30 [v] h K := by
  rw [lay_nil h]
  have z := Ext.refl h
  refine Ok.into rfl tab_fn30 body30 rfl (m := 17) rfl ?_
  simp -implicitDefEqProofs only [syms, symx, Nat.reduceAdd, Nat.reduceMul, Int.reduceLT, Int.reduceLE, Int.reduceAdd, Int.reduceSub, Int.reduceToNat, Int.reduceNeg, reduceIte, Nat.reduceGT, Nat.reduceLT, Nat.reduceLeDiff, code30_0, code30_1, ty30]
  repeat' ((first
    | ((with_reducible first | apply forkD | apply forkB | apply forkN | apply forkNP | apply forkNot) <;> intro _)
    | with_reducible_and_instances refine ln_rule hl ds81 ?_
    | ((with_reducible_and_instances apply unop_not); (· rfl))) <;> simp -implicitDefEqProofs only [syms, symx, Nat.reduceAdd, Nat.reduceMul, Int.reduceLT, Int.reduceLE, Int.reduceAdd, Int.reduceSub, Int.reduceToNat, Int.reduceNeg, reduceIte, Nat.reduceGT, Nat.reduceLT, Nat.reduceLeDiff, code30_0, code30_1, ty30])
  obtain ⟨I1, hI1⟩ : ∃ I : Nat → Env → Heap → Prop, I = (fun n e h' => ∃ (i : Nat) (w : Value) (A : Nat) (h1 : Heap), h' = h1.lay [] h1.low ∧ Ext h h1 ∧ (n = ls.length - i ∧ i ≤ ls.length ∧ Ow Rep.atom h h1 39 A w (ls.take i).flatten) ∧ ∃ J : Nat → Value, e = (J 0 :: J 1 :: J 2 :: w :: J 4 :: J 5 :: v :: .int .i64 ls.length :: .int .i64 i :: J 9 :: J 10 :: J 11 :: J 12 :: J 13 :: J 14 :: J 15 :: J 16 :: J 17 :: [])) := ⟨_, rfl⟩
  refine W_loopN I1 _ (by rw [hI1]; exact ⟨0, .slice none 0 0, h.size, _, rfl, z, ⟨rfl, by omega, Ow.nil (Nat.le_refl _)⟩, junk (by kernel_rfl)⟩) ?_
  intro n e h' hin
  rw [hI1] at hin
  obtain ⟨i, w, A, h1', rfl, z, hinv, J, rfl⟩ := hin
  obtain ⟨rfl, hi, ho⟩ := hinv
  have hw : IntKind.i64.wrap ((i : Int) + 1) = ((i + 1 : Nat) : Int) := by rw [wrap_i64 (by omega) (by omega)]; omega
  have hz := z.size
  have hva : ∀ (h : Heap) (K : Value → Heap → Prop), valE (some w) h K = K w h := fun _ _ => rfl
  simp -implicitDefEqProofs only [syms, symx, Nat.reduceAdd, Nat.reduceMul, Int.reduceLT, Int.reduceLE, Int.reduceAdd, Int.reduceSub, Int.reduceToNat, Int.reduceNeg, reduceIte, Nat.reduceGT, Nat.reduceLT, Nat.reduceLeDiff, code30_0, code30_1, ty30, hva]
  refine forkD (fun hlt1 => ?_) (fun hlt1 => ?_)
  rotate_left
  · rw [List.take_of_length_le (by omega)] at ho
    simp -implicitDefEqProofs only [syms, symx, Nat.reduceAdd, Nat.reduceMul, Int.reduceLT, Int.reduceLE, Int.reduceAdd, Int.reduceSub, Int.reduceToNat, Int.reduceNeg, reduceIte, Nat.reduceGT, Nat.reduceLT, Nat.reduceLeDiff, code30_0, code30_1, ty30, hva]
    repeat' ((first
      | ((with_reducible first | apply forkD | apply forkB | apply forkN | apply forkNP | apply forkNot) <;> intro _)
      | with_reducible_and_instances refine ln_rule hl ds81 ?_
      | ((with_reducible_and_instances apply unop_not); (· rfl))) <;> simp -implicitDefEqProofs only [syms, symx, Nat.reduceAdd, Nat.reduceMul, Int.reduceLT, Int.reduceLE, Int.reduceAdd, Int.reduceSub, Int.reduceToNat, Int.reduceNeg, reduceIte, Nat.reduceGT, Nat.reduceLT, Nat.reduceLeDiff, code30_0, code30_1, ty30, hva])
    refine ok_sorted ls.flatten w _ ((ho.sl (by decide)).lay _ _) hn2 hlt _ (fun h' w x ho => ?_)
    replace ho := ho.down (h0 := h) (by rw [lay_size]; omega)
    ((skip); replace z := z.overW x (by (try simp only [lay_size, List.length_cons, List.length_nil]); omega); rw [lay_nil h'])
    have hva : ∀ (h : Heap) (K : Value → Heap → Prop), valE (some w) h K = K w h := fun _ _ => rfl
    simp -implicitDefEqProofs only [syms, symx, Nat.reduceAdd, Nat.reduceMul, Int.reduceLT, Int.reduceLE, Int.reduceAdd, Int.reduceSub, Int.reduceToNat, Int.reduceNeg, reduceIte, Nat.reduceGT, Nat.reduceLT, Nat.reduceLeDiff, code30_0, code30_1, ty30, hva]
    repeat' ((first
      | ((with_reducible first | apply forkD | apply forkB | apply forkN | apply forkNP | apply forkNot) <;> intro _)
      | with_reducible_and_instances refine ln_rule hl ds81 ?_
      | ((with_reducible_and_instances apply unop_not); (· rfl))) <;> simp -implicitDefEqProofs only [syms, symx, Nat.reduceAdd, Nat.reduceMul, Int.reduceLT, Int.reduceLE, Int.reduceAdd, Int.reduceSub, Int.reduceToNat, Int.reduceNeg, reduceIte, Nat.reduceGT, Nat.reduceLT, Nat.reduceLeDiff, code30_0, code30_1, ty30, hva])
    exact hk _ _ (z.upW _ _ (by omega)) (ho.lay _ _)
  obtain ⟨r, hr, hr'⟩ := amElem (l := ls) (i := i) (by omega)
  simp -implicitDefEqProofs only [syms, symx, Nat.reduceAdd, Nat.reduceMul, Int.reduceLT, Int.reduceLE, Int.reduceAdd, Int.reduceSub, Int.reduceToNat, Int.reduceNeg, reduceIte, Nat.reduceGT, Nat.reduceLT, Nat.reduceLeDiff, code30_0, code30_1, ty30, hva]
  repeat' ((first
    | ((with_reducible first | apply forkD | apply forkB | apply forkN | apply forkNP | apply forkNot) <;> intro _)
    | with_reducible_and_instances refine ixl_at (hl.mono z.inc) ds81 sz23 (by omega) hr (fun p b hsb hp => ?_)
    | with_reducible_and_instances refine ld_one hp ag23 ?_
    | ((with_reducible_and_instances apply unop_not); (· rfl))) <;> simp -implicitDefEqProofs only [syms, symx, Nat.reduceAdd, Nat.reduceMul, Int.reduceLT, Int.reduceLE, Int.reduceAdd, Int.reduceSub, Int.reduceToNat, Int.reduceNeg, reduceIte, Nat.reduceGT, Nat.reduceLT, Nat.reduceLeDiff, code30_0, code30_1, ty30, hva])
  have hvb : ∀ (h : Heap) (K : Value → Heap → Prop), valE (some b) h K = K b h := fun _ _ => rfl
  simp -implicitDefEqProofs only [syms, symx, Nat.reduceAdd, Nat.reduceMul, Int.reduceLT, Int.reduceLE, Int.reduceAdd, Int.reduceSub, Int.reduceToNat, Int.reduceNeg, reduceIte, Nat.reduceGT, Nat.reduceLT, Nat.reduceLeDiff, code30_0, code30_1, ty30, hva, hvb, w_append, sty23]
  have hfl : (ls.take (i + 1)).flatten = (ls.take i).flatten ++ r := by rw [List.take_add_one, hr', List.flatten_append]; simp
  have hle : (ls.take i).flatten.length + r.length ≤ 900 := by
    have h1 : ls.flatten.length = (ls.take (i + 1)).flatten.length + (ls.drop (i + 1)).flatten.length := by rw [← List.length_append, ← List.flatten_append, List.take_append_drop]
    rw [hfl, List.length_append] at h1
    omega
  obtain ⟨news, hs, hsr⟩ := src_sl (A := A) (r := Rep.atom) (by decide) (hsb.lay [] h1'.low) (fun cs y hr => hr)
  have hfr := ho.fresh
  refine ap_rule (r := Rep.atom) ds23 tab_info39 rfl (by decide) hz ho hs hsr (by omega) (by omega) (fun w' h2 A' o2 c2 hA2 => ?_)
  replace z := (z.upW _ _ (by omega)).step c2 (by omega)
  rw [← hfl] at o2
  rw [lay_nil h2]
  have hva2 : ∀ (h : Heap) (K : Value → Heap → Prop), valE (some w') h K = K w' h := fun _ _ => rfl
  simp -implicitDefEqProofs only [syms, symx, Nat.reduceAdd, Nat.reduceMul, Int.reduceLT, Int.reduceLE, Int.reduceAdd, Int.reduceSub, Int.reduceToNat, Int.reduceNeg, reduceIte, Nat.reduceGT, Nat.reduceLT, Nat.reduceLeDiff, code30_0, code30_1, ty30, hva2]
  repeat' ((first
    | ((with_reducible first | apply forkD | apply forkB | apply forkN | apply forkNP | apply forkNot) <;> intro _)
    | with_reducible_and_instances refine ixl_at (hl.mono z.inc) ds81 sz23 (by omega) hr (fun p b hsb hp => ?_)
    | with_reducible_and_instances refine ld_one hp ag23 ?_
    | ((with_reducible_and_instances apply unop_not); (· rfl))) <;> simp -implicitDefEqProofs only [syms, symx, Nat.reduceAdd, Nat.reduceMul, Int.reduceLT, Int.reduceLE, Int.reduceAdd, Int.reduceSub, Int.reduceToNat, Int.reduceNeg, reduceIte, Nat.reduceGT, Nat.reduceLT, Nat.reduceLeDiff, code30_0, code30_1, ty30, hva2])
  rw [hw]
  (rw [hI1]; with_reducible refine loopN_normal (m := _) ?_ ⟨i + 1, w', A', _, rfl, z, ⟨rfl, by omega, o2⟩, junk (by kernel_rfl)⟩; omega)
end Go.Proofs.Ytompindebndddaa
