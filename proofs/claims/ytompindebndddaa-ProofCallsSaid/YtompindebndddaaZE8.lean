/- Walks: the place of an atom; is it there? Written out by fill2.py. No condition. -/
import Derived.Test.YtompindebndddaaG41
namespace Go.Proofs.Ytompindebndddaa
open Go.Am
set_option linter.unusedSimpArgs false
set_option linter.unusedVariables false
set_option maxRecDepth 100000
set_option maxHeartbeats 0
theorem ok_binSearch (l : List AtomD) (a : AtomD) (v : Value) (h : Heap) (hl : Sl Rep.atom h v l) (hs : AscD l) (hn : l.length ≤ 1000) (hlt : ∀ x ∈ l, x.light = true) (ha : a.light = true) (K : Value → Heap → Prop)
    (hk : ∀ h' i, Ext h h' → AmPlace l a i → K (.tuple #[.int .i64 (i : Nat), .bool (hasA l a)]) h') : Ok Try.prog tab ov 146 [v, a.val, .func (.func 43) ⟨[]⟩ ⟨[]⟩] h K := by
  rw [lay_nil h]
  have z := Ext.refl h
  have hln := fun (hh : Heap) => hl.lenA ds23 hh
  refine Ok.into rfl tab_fn146 (bodyF N146) rfl (m := 46) rfl ?_
  simp -implicitDefEqProofs only [syms, symx, seval, c146, hln, cells_atom]
  refine W_fold (fun h' x hq => ?_)
  have q0 := hq 0 _ rfl
  clear hq
  (replace z := z.overW x (by (try simp only [lsz]); omega); rw [lay_nil h'])
  obtain ⟨I1, hI1⟩ : ∃ I : Nat → Env → Heap → Prop, I = (fun n e h' => ∃ (i j : Nat) (h1 : Heap), h' = h1.lay [] h1.low ∧ Ext h h1 ∧ (n = j - i ∧ i ≤ j ∧ j ≤ l.length ∧ (∀ k, k < i → cmpD (l.getD k noAtomD) a < 0) ∧ (∀ k, j ≤ k → k < l.length → ¬ cmpD (l.getD k noAtomD) a < 0) ∧ Holds h1 (h.size + 0) (.row a.cells 39 false)) ∧ ∃ J : Nat → Value, e = (v :: J 1 :: .func (.func 43) ⟨[]⟩ ⟨[]⟩ :: J 3 :: .pointer (some ⟨h.size + 0, 0, none⟩) :: jr J 5 3 (.int .i64 l.length :: .int .i64 i :: .int .i64 j :: jr J 11 38 ([])))) := ⟨_, rfl⟩
  refine W_loopN I1 _ (by rw [hI1]; exact ⟨0, l.length, _, rfl, z, ⟨rfl, by omega, by omega, fun k g => by omega, fun k g1 g2 => by omega, q0⟩, junk (by kernel_rfl)⟩) ?_
  intro n e h' hin
  rw [hI1] at hin
  obtain ⟨i, j, h1', rfl, z, hinv, J, rfl⟩ := hin
  clear q0
  obtain ⟨rfl, hij, hjl, hlo, hhi, q0⟩ := hinv
  simp -implicitDefEqProofs only [syms, symx, seval, c146]
  refine forkD (fun hlt1 => ?_) (fun hlt1 => ?_)
  rotate_left
  · have e : i = j := by omega
    subst e
    have hpl : AmPlace l a i := ⟨hjl, hlo, hhi⟩
    have hhas := hpl.has hs
    simp -implicitDefEqProofs only [syms, symx, seval, c146]
    refine (drawN (by simp only [c146])) (z.upW _ _ (by omega)) ?_
    simp -implicitDefEqProofs only [syms, symx, seval, c146]
    refine forkD (fun hin => ?_) (fun hin => ?_)
    rotate_left
    · have e : hasA l a = false := by
        cases e : hasA l a
        · rfl
        · exact absurd (hhas.1 e).1 (by omega)
      rw [e] at hk
      repeat' (first | simp -implicitDefEqProofs only [syms, symx, seval, c146] | ((with_reducible refine ⟨z.grw.lay _ _, ?_⟩); (intro _ h' zz x _); (try simp only [lay_lay, List.append_nil] at x); (try replace q0 := q0.over x); (replace z := zz); (clear zz); rw [lay_nil h']))
      exact hk _ _ (z.upW _ _ (by omega)) hpl
    have hr : l[(i : Int).toNat]? = some (l.getD i noAtomD) := getD_at (by omega)
    simp -implicitDefEqProofs only [syms, symx, seval, c146]
    repeat' ((first | with_reducible_and_instances refine ixa_at (hl.mono z.inc) ds23 sz39 (by omega) hr (fun p hp => ?_) | with_reducible_and_instances refine lda hp ag39 sz39 ?_) <;> simp -implicitDefEqProofs only [syms, symx, seval, c146, q0.lay, cells_atom, ↓cut_atom, agg_atom, valE_atom])
    refine ok_cmp _ _ (light_getD hlt (by omega)) ha _ _ (fun h' x => ?_)
    (( ((with_reducible refine KOpsX_call ?_ ?_ ?_); (· exact (by (try simp only [lsz]); have := z.size; omega)); (·  exact x )) ); replace z := z.overW x (by (try simp only [lsz]); omega); (try replace q0 := q0.over x); rw [lay_nil h'])
    simp -implicitDefEqProofs only [syms, symx, seval, c146]
    refine forkB (fun hc => ?_) (fun hc => ?_)
    · rw [hhas.2 ⟨by omega, hc⟩] at hk
      repeat' (first | simp -implicitDefEqProofs only [syms, symx, seval, c146] | ((with_reducible refine ⟨z.grw.lay _ _, ?_⟩); (intro _ h' zz x _); (try simp only [lay_lay, List.append_nil] at x); (try replace q0 := q0.over x); (replace z := zz); (clear zz); rw [lay_nil h']))
      exact hk _ _ (z.upW _ _ (by omega)) hpl
    · have e : hasA l a = false := by
        cases e : hasA l a
        · rfl
        · exact absurd (hhas.1 e).2 hc
      rw [e] at hk
      repeat' (first | simp -implicitDefEqProofs only [syms, symx, seval, c146] | ((with_reducible refine ⟨z.grw.lay _ _, ?_⟩); (intro _ h' zz x _); (try simp only [lay_lay, List.append_nil] at x); (try replace q0 := q0.over x); (replace z := zz); (clear zz); rw [lay_nil h']))
      exact hk _ _ (z.upW _ _ (by omega)) hpl
  obtain ⟨e1, e2, e3, e4⟩ := half_u64 i j (by omega)
  repeat' ( simp -implicitDefEqProofs only [syms, symx, seval, c146, e1])
  rw [w_conv rfl rfl rfl (pure_iu _) rfl, e2]
  simp -implicitDefEqProofs only [syms, symx, seval, c146, e1]
  rw [bin_shr (by decide), e4]
  simp -implicitDefEqProofs only [syms, symx, seval, c146, e1]
  rw [w_conv rfl rfl rfl (pure_ui _) rfl, e3]
  repeat' ( simp -implicitDefEqProofs only [syms, symx, seval, c146, e1])
  have hhm : i ≤ (i + j) / 2 ∧ (i + j) / 2 < j := by omega
  have hwh : IntKind.i64.wrap ((((i + j) / 2 : Nat) : Int) + 1) = (((i + j) / 2 + 1 : Nat) : Int) := by rw [wrap_i64 (by omega) (by omega)]; omega
  generalize (i + j) / 2 = y at hhm hwh ⊢
  have hr : l[(y : Int).toNat]? = some (l.getD y noAtomD) := getD_at (by omega)
  refine (drawN (by simp only [c146])) (z.upW _ _ (by omega)) ?_
  simp -implicitDefEqProofs only [syms, symx, seval, c146]
  repeat' ((first | with_reducible_and_instances refine ixa_at (hl.mono z.inc) ds23 sz39 (by omega) hr (fun p hp => ?_) | with_reducible_and_instances refine lda hp ag39 sz39 ?_) <;> simp -implicitDefEqProofs only [syms, symx, seval, c146, q0.lay, cells_atom, ↓cut_atom, agg_atom, valE_atom])
  refine ok_cmp _ _ (light_getD hlt (by omega)) ha _ _ (fun h' x => ?_)
  (( ((with_reducible refine KOpsX_call ?_ ?_ ?_); (· exact (by (try simp only [lsz]); have := z.size; omega)); (·  exact x )) ); replace z := z.overW x (by (try simp only [lsz]); omega); (try replace q0 := q0.over x); rw [lay_nil h'])
  simp -implicitDefEqProofs only [syms, symx, seval, c146]
  refine forkD (fun hc => ?_) (fun hc => ?_)
  · repeat' (first | simp -implicitDefEqProofs only [syms, symx, seval, c146] | ((with_reducible refine ⟨z.grw.lay _ _, ?_⟩); (intro _ h' zz x _); (try simp only [lay_lay, List.append_nil] at x); (try replace q0 := q0.over x); (replace z := zz); (clear zz); rw [lay_nil h']))
    rw [hwh]
    (rw [hI1]; with_reducible refine loopN_normal (m := _) ?_ ⟨y + 1, j, _, rfl, z, ⟨rfl, by omega, by omega, fun k g => by
      rcases Nat.lt_or_ge k y with e | e
      · exact cmpD_lt_trans (asc_le (asc_iff.1 hs) e (by omega)) hc
      · have e : k = y := by omega
        subst e
        exact hc, hhi, q0⟩, junk (by kernel_rfl)⟩; omega)
  · have hhi2 : ∀ k, y ≤ k → k < l.length → ¬ cmpD (l.getD k noAtomD) a < 0 := by
      intro k g1 g2
      rcases Nat.eq_or_lt_of_le g1 with e | e
      · subst e
        exact hc
      · intro g
        exact hc (cmpD_lt_trans (asc_le (asc_iff.1 hs) e g2) g)
    repeat' (first | simp -implicitDefEqProofs only [syms, symx, seval, c146] | ((with_reducible refine ⟨z.grw.lay _ _, ?_⟩); (intro _ h' zz x _); (try simp only [lay_lay, List.append_nil] at x); (try replace q0 := q0.over x); (replace z := zz); (clear zz); rw [lay_nil h']))
    (rw [hI1]; with_reducible refine loopN_normal (m := _) ?_ ⟨i, y, _, rfl, z, ⟨rfl, by omega, by omega, hlo, hhi2, q0⟩, junk (by kernel_rfl)⟩; omega)
theorem ok_place (l : List AtomD) (a : AtomD) (v : Value) (h : Heap) (hl : Sl Rep.atom h v l) (hs : AscD l) (hn : l.length ≤ 1000) (hlt : ∀ x ∈ l, x.light = true) (ha : a.light = true) (K : Value → Heap → Prop)
    (hk : ∀ h' i, Ext h h' → AmPlace l a i → K (.tuple #[.int .i64 (i : Nat), .bool (hasA l a)]) h') : Ok Try.prog tab ov 96 [v, a.val] h K := by
  rw [lay_nil h]
  have z := Ext.refl h
  refine Ok.into rfl tab_fn96 (bodyF N96) rfl (m := 9) rfl ?_
  repeat' ( simp -implicitDefEqProofs only [syms, symx, seval, c96, cells_atom, ↓cut_atom, agg_atom, valE_atom])
  refine ok_binSearch l a v _ (hl.lay _ _) hs hn hlt ha _ (fun h' i x hp => ?_)
  ((skip); replace z := z.overW x (by (try simp only [lsz]); omega); (try replace q0 := q0.over x); rw [lay_nil h'])
  generalize hasA l a = b at hk ⊢
  cases b
  all_goals
    repeat' ( simp -implicitDefEqProofs only [syms, symx, seval, c96])
    exact hk _ _ (z.upW _ _ (by omega)) hp
theorem ok_has (l : List AtomD) (a : AtomD) (v : Value) (h : Heap) (hl : Sl Rep.atom h v l) (hn : l.length ≤ 900) (hlt : ∀ x ∈ l, x.light = true) (ha : a.light = true) (K : Value → Heap → Prop)
    (hk : ∀ h', Ext h h' → K (.bool (hasA l a)) h') : Ok Try.prog tab ov 35 [v, a.val] h K := by
  rw [lay_nil h]
  have z := Ext.refl h
  refine Ok.into rfl tab_fn35 (bodyF N35) rfl (m := 13) rfl ?_
  simp -implicitDefEqProofs only [syms, symx, seval, c35, cells_atom]
  refine W_fold (fun h' x hq => ?_)
  have q0 := hq 0 _ rfl
  clear hq
  (replace z := z.overW x (by (try simp only [lsz]); omega); (try replace q0 := q0.over x); rw [lay_nil h'])
  refine (drawN (by simp only [c35])) (z.upW _ _ (by omega)) ?_
  simp -implicitDefEqProofs only [syms, symx, seval, c35]
  refine ok_made l v _ ((hl.mono z.inc).lay _ _) hn hlt _ (fun h' w x ho => ?_)
  (( ((with_reducible refine KOpsX_call ?_ ?_ ?_); (· exact (by (try simp only [lsz]); have := z.size; omega)); (·  exact x )) ); replace z := z.overW x (by (try simp only [lsz]); omega); (try replace q0 := q0.over x); rw [lay_nil h'])
  have hva := vSelf w
  repeat' ( simp -implicitDefEqProofs only [syms, symx, seval, c35, hva, q0.lay, cells_atom, ↓cut_atom, agg_atom, valE_atom])
  refine ok_place (sortA l) a w _ (ho.sl.lay _ _) (sortA_of l).asc (by have := sortA_length l; omega) (sortA_light hlt) ha _ (fun h' i x hp => ?_)
  rw [hasA_sort]
  (( ((with_reducible refine KOpsX_call ?_ ?_ ?_); (· exact (by (try simp only [lsz]); have := z.size; omega)); (·  exact x )) ); replace z := z.overW x (by (try simp only [lsz]); omega); (try replace q0 := q0.over x); rw [lay_nil h'])
  generalize hasA l a = b at hk ⊢
  cases b
  all_goals
    repeat' (first | simp -implicitDefEqProofs only [syms, symx, seval, c35] | ((with_reducible refine ⟨z.grw.lay _ _, ?_⟩); (intro _ h' zz x _); (try simp only [lay_lay, List.append_nil] at x); (try replace q0 := q0.over x); (replace z := zz); (clear zz); rw [lay_nil h']))
    exact hk _ (z.upW _ _ (by omega))
end Go.Proofs.Ytompindebndddaa
