/- Walks: terms and atoms of the document's form Written out by fill2.py. No condition. -/
import Derived.Test.YtompindebndddaaG31
namespace Go.Proofs.Ytompindebndddaa
open Go.Am
set_option linter.unusedSimpArgs false
set_option linter.unusedVariables false
set_option maxRecDepth 100000
set_option maxHeartbeats 0
theorem bld_noT : buildA tab 36 [] = some noTermD.val := by kernel_rfl
theorem cut_argV (a : AtomD) (k : Nat) (hk : k < 4) : cut a.cells (3 + k * 2) 2 = some (a.arg k).cells := by
  have : k = 0 ∨ k = 1 ∨ k = 2 ∨ k = 3 := by omega
  rcases this with rfl | rfl | rfl | rfl <;> rfl
theorem agg_term2 (a : TermD) : Value.agg a.cells.toArray = a.val := rfl
theorem cell_v0 (a : AtomD) : a.cells[0]? = some (.string a.says) := rfl
theorem cell_v1 (a : AtomD) : a.cells[1]? = some (.string a.pred) := rfl
theorem cell_v2 (a : AtomD) : a.cells[2]? = some (.int .i64 a.n) := rfl
theorem ok_termOk (t : TermD) (h : Heap) (K : Value → Heap → Prop) (h1 : okTermD t → ∀ h', Ext h h' → K (.bool true) h') (h2 : ∀ h', Ext h h' → K (.bool false) h') : Ok Try.prog tab ov 88 [t.val] h K := by
  rw [lay_nil h]
  have z := Ext.refl h
  rcases t with ⟨tv, ts⟩
  unfold okTermD at h1
  cases tv
  · refine Ok.into rfl tab_fn88 (bodyF N88) rfl (m := 10) rfl ?_
    simp -implicitDefEqProofs only [syms, symx, seval, c88, TermD.val, TermD.cells]
    refine ok_const _ _ _ (fun hs h' x => ?_) (fun h' x => ?_)
    all_goals
      ((skip); replace z := z.overW x (by (try simp only [lsz]); omega); rw [lay_nil h'])
      simp -implicitDefEqProofs only [syms, symx, seval, c88]
      first
        | exact h1 hs _ (z.upW _ _ (by omega))
        | exact h2 _ (z.upW _ _ (by omega))
  · refine Ok.into rfl tab_fn88 (bodyF N88) rfl (m := 10) rfl ?_
    simp -implicitDefEqProofs only [syms, symx, seval, c88, TermD.val, TermD.cells]
    refine ok_variable _ _ _ (fun hs h' x => ?_) (fun h' x => ?_)
    all_goals
      ((skip); replace z := z.overW x (by (try simp only [lsz]); omega); rw [lay_nil h'])
      simp -implicitDefEqProofs only [syms, symx, seval, c88]
      first
        | exact h1 hs _ (z.upW _ _ (by omega))
        | exact h2 _ (z.upW _ _ (by omega))
theorem ok_validA (a : AtomD) (h : Heap) (K : Value → Heap → Prop) (h1 : ValidD a → ∀ h', Ext h h' → K (.int .i64 0) h') (h2 : ∀ c h', c ≠ 0 → Ext h h' → K (.int .i64 c) h') : Ok Try.prog tab ov 29 [a.val] h K := by
  rw [lay_nil h]
  have z := Ext.refl h
  refine Ok.into rfl tab_fn29 (bodyF N29) rfl (m := 46) rfl ?_
  repeat' (first | simp -implicitDefEqProofs only [syms, symx, seval, c29, cells_atom, cell_v0, cell_v1, cell_v2] | ((with_reducible first | apply forkD | apply forkB | apply forkN | apply forkNP | apply forkNot) <;> intro _) | ((with_reducible_and_instances apply unop_not); (· rfl)))
  refine ok_principal _ _ _ (fun hs h' x => ?_) (fun h' x => ?_)
  rotate_left
  · ((skip); replace z := z.overW x (by (try simp only [lsz]); omega); rw [lay_nil h'])
    repeat' (first | simp -implicitDefEqProofs only [syms, symx, seval, c29] | ((with_reducible first | apply forkD | apply forkB | apply forkN | apply forkNP | apply forkNot) <;> intro _) | ((with_reducible_and_instances apply unop_not); (· rfl)))
    exact h2 _ _ (by decide) (z.upW _ _ (by omega))
  have q0 := Holds.top (i := 0) x rfl
  (replace z := z.overW x (by (try simp only [lay_size, List.length_cons, List.length_nil]); omega); rw [lay_nil h'])
  repeat' (first | simp -implicitDefEqProofs only [syms, symx, seval, c29, q0.lay, cell_v0, cell_v1, cell_v2] | ((with_reducible first | apply forkD | apply forkB | apply forkN | apply forkNP | apply forkNot) <;> intro _) | ((with_reducible_and_instances apply unop_not); (· rfl)))
  refine ok_predicate _ _ _ (fun hp h' x => ?_) (fun h' x => ?_)
  rotate_left
  · ((skip); replace z := z.overW x (by (try simp only [lsz]); omega); (try replace q0 := q0.over x); rw [lay_nil h'])
    repeat' (first | simp -implicitDefEqProofs only [syms, symx, seval, c29] | ((with_reducible first | apply forkD | apply forkB | apply forkN | apply forkNP | apply forkNot) <;> intro _) | ((with_reducible_and_instances apply unop_not); (· rfl)))
    exact h2 _ _ (by decide) (z.upW _ _ (by omega))
  ((skip); replace z := z.overW x (by (try simp only [lsz]); omega); (try replace q0 := q0.over x); rw [lay_nil h'])
  repeat' (first | simp -implicitDefEqProofs only [syms, symx, seval, c29, q0.lay, cell_v0, cell_v1, cell_v2] | ((with_reducible first | apply forkD | apply forkB | apply forkN | apply forkNP | apply forkNot) <;> intro _) | ((with_reducible_and_instances apply unop_not); (· rfl)))
  all_goals try exact h2 _ _ (by decide) (z.upW _ _ (by omega))
  have hn0 : 0 ≤ a.n := by omega
  have hn4 : a.n ≤ 4 := by omega
  obtain ⟨I1, hI1⟩ : ∃ I : Nat → Env → Heap → Prop, I = (fun n e h' => ∃ (i : Nat) (h1 : Heap), h' = h1.lay [] h1.low ∧ Ext h h1 ∧ (n = 4 - i ∧ (i : Int) ≤ a.n ∧ (∀ j, j < i → okTermD (a.arg j)) ∧ Holds h1 (h.size + 0) (.row a.cells 39 false)) ∧ ∃ J : Nat → Value, e = (J 0 :: .pointer (some ⟨h.size + 0, 0, none⟩) :: J 2 :: .int .i64 i :: jr J 4 43 ([]))) := ⟨_, rfl⟩
  refine W_loopN I1 _ (by rw [hI1]; exact ⟨0, _, rfl, z, ⟨rfl, by omega, fun j hj => by omega, q0⟩, junk (by kernel_rfl)⟩) ?_
  intro n e h' hin
  rw [hI1] at hin
  obtain ⟨i, h1', rfl, z, hinv, J, rfl⟩ := hin
  clear q0
  obtain ⟨rfl, hi, hall, q0⟩ := hinv
  have hwi : IntKind.i64.wrap ((i : Int) + 1) = ((i + 1 : Nat) : Int) := by rw [wrap_i64 (by omega) (by omega)]; omega
  simp -implicitDefEqProofs only [syms, symx, seval, c29, q0.lay, cell_v2]
  refine forkD (fun hlt => ?_) (fun hlt => ?_)
  · have hin4 : (0 : Int) ≤ (i : Int) ∧ (i : Int) < 4 := by omega
    have hca := cut_argV a i (by omega)
    repeat' (first | simp -implicitDefEqProofs only [syms, symx, seval, c29, q0.lay, hin4, ↓hca, agg_term2, valE_term, and_self, if_true] | ((with_reducible first | apply forkD | apply forkB | apply forkN | apply forkNP | apply forkNot) <;> intro _) | ((with_reducible_and_instances apply unop_not); (· rfl)))
    refine ok_termOk _ _ _ (fun ht h' x => ?_) (fun h' x => ?_)
    · ((skip); replace z := z.overW x (by (try simp only [lsz]); omega); (try replace q0 := q0.over x); rw [lay_nil h'])
      have hnx : ∀ j, j < i + 1 → okTermD (a.arg j) := by
        intro j hj
        by_cases hji : j < i
        · exact hall j hji
        · have : j = i := by omega
          subst this
          exact ht
      repeat' (first | simp -implicitDefEqProofs only [syms, symx, seval, c29] | ((with_reducible first | apply forkD | apply forkB | apply forkN | apply forkNP | apply forkNot) <;> intro _) | ((with_reducible_and_instances apply unop_not); (· rfl)))
      rw [hwi]
      (rw [hI1]; with_reducible refine loopN_normal (m := _) ?_ ⟨i + 1, _, rfl, z, ⟨rfl, by omega, hnx, q0⟩, junk (by kernel_rfl)⟩; omega)
    · ((skip); replace z := z.overW x (by (try simp only [lsz]); omega); (try replace q0 := q0.over x); rw [lay_nil h'])
      repeat' (first | simp -implicitDefEqProofs only [syms, symx, seval, c29] | ((with_reducible first | apply forkD | apply forkB | apply forkN | apply forkNP | apply forkNot) <;> intro _) | ((with_reducible_and_instances apply unop_not); (· rfl)))
      exact h2 _ _ (by decide) (z.upW _ _ (by omega))
  have hin : a.n = (i : Int) := by omega
  repeat' (first | simp -implicitDefEqProofs only [syms, symx, seval, c29, q0.lay, cell_v2] | ((with_reducible first | apply forkD | apply forkB | apply forkN | apply forkNP | apply forkNot) <;> intro _) | ((with_reducible_and_instances apply unop_not); (· rfl)))
  rw [hin]
  obtain ⟨I2, hI2⟩ : ∃ I : Nat → Env → Heap → Prop, I = (fun n e h' => ∃ (k : Nat) (h1 : Heap), h' = h1.lay [] h1.low ∧ Ext h h1 ∧ (n = 4 - k ∧ i ≤ k ∧ k ≤ 4 ∧ (∀ j, i ≤ j → j < k → a.arg j = noTermD) ∧ Holds h1 (h.size + 0) (.row a.cells 39 false)) ∧ ∃ J : Nat → Value, e = (J 0 :: .pointer (some ⟨h.size + 0, 0, none⟩) :: jr J 2 2 (.int .i64 k :: jr J 5 42 ([])))) := ⟨_, rfl⟩
  refine W_loopN I2 _ (by rw [hI2]; exact ⟨i, _, rfl, z, ⟨rfl, by omega, by omega, fun j h1 h2 => by omega, q0⟩, junk (by kernel_rfl)⟩) ?_
  intro n e h' hin
  rw [hI2] at hin
  obtain ⟨k, h2', rfl, z, hinv, J, rfl⟩ := hin
  clear q0
  obtain ⟨rfl, hik, hk4, hrest, q0⟩ := hinv
  have hwk : IntKind.i64.wrap ((k : Int) + 1) = ((k + 1 : Nat) : Int) := by rw [wrap_i64 (by omega) (by omega)]; omega
  simp -implicitDefEqProofs only [syms, symx, seval, c29]
  refine forkD (fun hlt => ?_) (fun hlt => ?_)
  rotate_left
  · repeat' (first | simp -implicitDefEqProofs only [syms, symx, seval, c29] | ((with_reducible first | apply forkD | apply forkB | apply forkN | apply forkNP | apply forkNot) <;> intro _) | ((with_reducible_and_instances apply unop_not); (· rfl)))
    exact h1 ⟨hs, hp, by omega, by omega, fun j hj => hall j (by omega), fun j h1 h2 => hrest j (by omega) (by omega)⟩ _ (z.upW _ _ (by omega))
  have hin4 : (0 : Int) ≤ (k : Int) ∧ (k : Int) < 4 := by omega
  have hca := cut_argV a k (by omega)
  simp -implicitDefEqProofs only [syms, symx, seval, c29, q0.lay, hin4, ↓hca, agg_term2, valE_term, and_self, if_true, bld_noT, bin_termN]
  refine forkNP (fun hne => ?_) (fun heq => ?_)
  · repeat' (first | simp -implicitDefEqProofs only [syms, symx, seval, c29] | ((with_reducible first | apply forkD | apply forkB | apply forkN | apply forkNP | apply forkNot) <;> intro _) | ((with_reducible_and_instances apply unop_not); (· rfl)))
    exact h2 _ _ (by decide) (z.upW _ _ (by omega))
  · have hnx : ∀ j, i ≤ j → j < k + 1 → a.arg j = noTermD := by
      intro j h1 h2
      by_cases hji : j < k
      · exact hrest j h1 hji
      · have : j = k := by omega
        subst this
        exact heq
    repeat' (first | simp -implicitDefEqProofs only [syms, symx, seval, c29] | ((with_reducible first | apply forkD | apply forkB | apply forkN | apply forkNP | apply forkNot) <;> intro _) | ((with_reducible_and_instances apply unop_not); (· rfl)))
    rw [hwk]
    (rw [hI2]; with_reducible refine loopN_normal (m := _) ?_ ⟨k + 1, _, rfl, z, ⟨rfl, by omega, by omega, hnx, q0⟩, junk (by kernel_rfl)⟩; omega)
end Go.Proofs.Ytompindebndddaa
