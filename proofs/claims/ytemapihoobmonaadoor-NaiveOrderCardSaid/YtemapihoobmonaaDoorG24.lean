/- Walks: bindings: do they rise Written out by fill2.py. No condition. -/
import Derived.Test.YtemapihoobmonaaDoorG21
import Derived.Test.YtemapihoobmonaaDoorGMapx
namespace Go.Proofs.YtemapihoobmonaaDoor
open Go.Am
set_option linter.unusedSimpArgs false
set_option linter.unusedVariables false
set_option maxRecDepth 100000
set_option maxHeartbeats 0
theorem bin_sge {P : Program} {T : Tab} {t : TypeId} {a b : ByteArray} : binA P T .geq t (.string a) (.string b) = some (.bool (!slt a b)) := by
  refine bin_str rfl ?_ rfl
  unfold Op.stringOp
  simp only [toList_data]
  rfl
theorem ok_rises (l : List BindD) (v : Value) (h : Heap) (hl : Sl Rep.bind h v l) (hs : l.length ≤ 1000) (K : Value → Heap → Prop)
    (hk : ∀ (h' : Heap) (b : Bool), Ext h h' → (b = true ↔ Rising l l.length) → K (.bool b) h') : Ok Tryd.prog tab ov 54 [v] h K := by
  rw [lay_nil h]
  have z := Ext.refl h
  refine Ok.into rfl tab_fn54 (bodyF N54) rfl (m := 25) rfl ?_
  simp -implicitDefEqProofs only [syms, symx, seval, c54]
  repeat' (( with_reducible_and_instances refine ln_rule hl ds51 ?_) <;> simp -implicitDefEqProofs only [syms, symx, seval, c54])
  obtain ⟨I1, hI1⟩ : ∃ I : Nat → Env → Heap → Prop, I = (fun n e h' => ∃ (i : Nat) (h1 : Heap), h' = h1.lay [] h1.low ∧ Ext h h1 ∧ (n = l.length - i ∧ i ≤ l.length ∧ Rising l i) ∧ ∃ J : Nat → Value, e = (v :: jr J 1 4 (.int .i64 l.length :: .int .i64 i :: jr J 7 19 ([])))) := ⟨_, rfl⟩
  refine W_loopN I1 _ (by rw [hI1]; exact ⟨0, _, rfl, z, ⟨rfl, by omega, by intro k x y hk; omega⟩, junk (by kernel_rfl)⟩) ?_
  intro n e h' hin
  rw [hI1] at hin
  obtain ⟨i, h1', rfl, z, hinv, J, rfl⟩ := hin
  obtain ⟨rfl, hi, hall⟩ := hinv
  have hw : IntKind.i64.wrap ((i : Int) + 1) = ((i + 1 : Nat) : Int) := by rw [wrap_i64 (by omega) (by omega)]; omega
  have hw2 : IntKind.i64.wrap ((i : Int) - 1) = (i : Int) - 1 := wrap_i64 (by omega) (by omega)
  simp -implicitDefEqProofs only [syms, symx, seval, c54]
  refine forkD (fun hlt => ?_) (fun hlt => ?_)
  rotate_left
  · simp -implicitDefEqProofs only [syms, symx, seval, c54]
    obtain rfl : i = l.length := by omega
    exact hk _ true (z.upW _ _ (by omega)) ⟨fun _ => hall, fun _ => rfl⟩
  repeat' (first | simp -implicitDefEqProofs only [syms, symx, seval, c54] | ((with_reducible  apply forkD ) <;> intro _) | with_reducible refine drawN (by simp only [c54]) (z.upW _ _ (by omega)) ?_ | ((with_reducible refine ⟨z.grw.lay _ _, ?_⟩); (intro _ h' zz x _); (try simp only [lay_lay, List.append_nil] at x); (replace z := zz); (clear zz); rw [lay_nil h']))
  rotate_left
  · rw [hw]
    (rw [hI1]; with_reducible refine loopN_normal (m := _) ?_ ⟨i + 1, _, rfl, z, ⟨rfl, by omega, rising_one (by omega)⟩, junk (by kernel_rfl)⟩; omega)
  have hw3 : IntKind.i64.wrap ((i : Int) - 1) = ((i - 1 : Nat) : Int) := by rw [hw2]; omega
  rw [hw3]
  obtain ⟨r0, hr0, hr0'⟩ := amElem (l := l) (i := i - 1) (by omega)
  obtain ⟨r1, hr1, hr1'⟩ := amElem (l := l) (i := i) (by omega)
  repeat' ((first | ((with_reducible  apply forkNot) <;> intro _) | with_reducible_and_instances refine ixb_at (hl.mono z.inc) ds51 sz71 (by omega) hr0 (fun p hp => ?_) | with_reducible_and_instances refine ixb_at (hl.mono z.inc) ds51 sz71 (by omega) hr1 (fun p hp => ?_) | with_reducible_and_instances refine fdb0 hp fa71_0 (fun q hq => ?_) | with_reducible_and_instances refine ld_one hq ag9 ?_ | ((with_reducible refine ⟨z.grw.lay _ _, ?_⟩); (intro _ h' zz x _); (try simp only [lay_lay, List.append_nil] at x); (replace z := zz); (clear zz); rw [lay_nil h'])) <;> simp -implicitDefEqProofs only [syms, symx, seval, c54, bin_sge])
  rotate_left
  · rw [hw]
    (rw [hI1]; with_reducible refine loopN_normal (m := _) ?_ ⟨i + 1, _, rfl, z, ⟨rfl, by omega, rising_next hall (by omega) hr0' hr1' (by assumption)⟩, junk (by kernel_rfl)⟩; omega)
  · refine hk _ false (z.upW _ _ (by omega)) ⟨nofun, fun hR => absurd hR (rising_not (by omega) hr0' hr1' (by simp [*]))⟩
theorem ok_get1 (l : List BindD) (v : Value) (s : ByteArray) (i : Nat) (A B : Nat) (h : Heap) (hl : Sl Rep.bind h v l) (hs : l.length ≤ 1000) (hi : i < l.length) (q0 : Holds h A (.row [v] 51 false)) (q1 : Holds h B (.row [.string s] 9 false)) (K : Value → Heap → Prop)
    (hk : ∀ h', Ext h h' → K (.bool (match l[i]? with | some x => !slt x.var s | none => false)) h') : Ok Tryd.prog tab ov 56 [.int .i64 i, .pointer (some ⟨A, 0, none⟩), .pointer (some ⟨B, 0, none⟩)] h K := by
  rw [lay_nil h]
  have z := Ext.refl h
  obtain ⟨r, hr, hr'⟩ := amElem (l := l) (i := i) (by omega)
  rw [hr'] at hk
  refine Ok.into rfl tab_fn56 (bodyF N56) rfl (m := 9) rfl ?_
  simp -implicitDefEqProofs only [syms, symx, seval, c56]
  repeat' ((first | with_reducible_and_instances refine ixb_at (hl.mono z.inc) ds51 sz71 (by omega) hr (fun p hp => ?_) | with_reducible_and_instances refine fdb0 hp fa71_0 (fun q hq => ?_) | with_reducible_and_instances refine ld_one hq ag9 ?_ | with_reducible refine drawN (by simp only [c56]) (z.upW _ _ (by omega)) ?_ | ((with_reducible refine ⟨z.grw.lay _ _, ?_⟩); (intro _ h' zz x _); (try simp only [lay_lay, List.append_nil] at x); (replace z := zz); (clear zz); rw [lay_nil h'])) <;> simp -implicitDefEqProofs only [syms, symx, seval, c56, q0.lay, q1.lay, bin_sge, valE_any])
  exact hk _ (z.upW _ _ (by omega))
theorem bld_noterm : buildA tab 33 [] = some noTermD.val := by kernel_rfl
theorem cut_term (a : TermD) : cut a.cells 0 2 = some a.cells := rfl
theorem agg_term (a : TermD) : Value.agg a.cells.toArray = a.val := rfl
theorem ok_get (l : List BindD) (v : Value) (s : ByteArray) (h : Heap) (hl : Sl Rep.bind h v l) (hs : l.length ≤ 1000) (K : Value → Heap → Prop)
    (hk : ∀ h', Ext h h' → K (.tuple #[(subGet l s).1.val, .bool (subGet l s).2]) h') : Ok Tryd.prog tab ov 39 [v, .string s] h K := by
  rw [lay_nil h]
  have z := Ext.refl h
  refine Ok.into rfl tab_fn39 (bodyF N39) rfl (m := 30) rfl ?_
  have hc : v.cells.toList = [v] := sl_cells hl
  have hva := vSelf v
  repeat' ( simp -implicitDefEqProofs only [syms, symx, seval, c39, hc, hva])
  refine ok_rises l _ _ (hl.lay _ _) hs _ (fun h' b x hb => ?_)
  have q0 := Holds.top (i := 0) x rfl
  have q1 := Holds.top (i := 1) x rfl
  have q2 := Holds.top (i := 2) x rfl
  (( skip); replace z := z.overW x (by (try simp only [lsz]); omega); rw [lay_nil h'])
  cases b
  rotate_left
  focus
    simp -implicitDefEqProofs only [syms, symx, seval, c39, q0.lay, q1.lay, hc, hva]
    repeat' (( with_reducible_and_instances refine ln_rule (hl.mono z.inc) ds51 ?_) <;> simp -implicitDefEqProofs only [syms, symx, seval, c39, q0.lay, q1.lay, hc, hva])
    refine ok_search l.length hs _ (fun i => match l[i]? with | some x => !slt x.var s | none => false) _ (fun i hc' K' hi xe hk' => ?_) _ (fun h2' i x hi hlo hhi => ?_)
    · rw [callE_clos]
      have xe' := z.overW xe (by (try simp only [lay_size, List.length_cons, List.length_nil]); omega)
      exact ok_get1 l v s i _ _ hc' (hl.mono xe'.inc) hs hi (q0.over xe) (q1.over xe) K' hk'
    have q0 := q0.over x
    have q1 := q1.over x
    have q2 := q2.over x
    (replace z := z.overW x (by (try simp only [lay_size, List.length_cons, List.length_nil]); omega); rw [lay_nil h2'])
    have hlow := search_low (hb.1 rfl) hi hlo
    clear hlo hhi
    simp -implicitDefEqProofs only [syms, symx, seval, c39]
  rotate_left
  focus
    simp -implicitDefEqProofs only [syms, symx, seval, c39]
    have hi : 0 ≤ l.length := Nat.zero_le _
    have hlow : ∀ y ∈ l.take 0, y.var ≠ s := by simp
  all_goals
    obtain ⟨I1, hI1⟩ : ∃ I : Nat → Env → Heap → Prop, I = (fun n e h' => ∃ (i : Nat) (h1 : Heap), h' = h1.lay [] h1.low ∧ Ext h h1 ∧ (n = l.length - i ∧ i ≤ l.length ∧ (∀ y ∈ l.take i, y.var ≠ s) ∧ Holds h1 (h.size + 0) (.row [v] 51 false) ∧ Holds h1 (h.size + 1) (.row [.string s] 9 false) ∧ Holds h1 (h.size + 2) (.row [.bool false, .string ⟨#[]⟩] 33 false)) ∧ ∃ J : Nat → Value, e = (jr J 0 2 (.pointer (some ⟨h.size + 0, 0, none⟩) :: .pointer (some ⟨h.size + 1, 0, none⟩) :: .pointer (some ⟨h.size + 2, 0, none⟩) :: .bool false :: .int .i64 i :: jr J 7 25 ([])))) := ⟨_, rfl⟩
    refine W_loopN I1 _ (by rw [hI1]; exact ⟨_, _, rfl, z, ⟨rfl, hi, hlow, q0, q1, q2⟩, junk (by kernel_rfl)⟩) ?_
    intro n e h' hin
    rw [hI1] at hin
    obtain ⟨i, h3', rfl, z, hinv, J, rfl⟩ := hin
    clear hi hlow q0 q1 q2
    obtain ⟨rfl, hi, hlow, q0, q1, q2⟩ := hinv
    have hw : i < l.length → IntKind.i64.wrap ((i : Int) + 1) = ((i + 1 : Nat) : Int) := fun _ => by rw [wrap_i64 (by omega) (by omega)]; omega
    have hz := z.size
    simp -implicitDefEqProofs only [syms, symx, seval, c39, q0.lay, hva]
    repeat' ((first | ((with_reducible  apply forkD ) <;> intro _) | with_reducible_and_instances refine ln_rule (hl.mono z.inc) ds51 ?_) <;> simp -implicitDefEqProofs only [syms, symx, seval, c39, q0.lay, hva])
    rotate_left
    · simp -implicitDefEqProofs only [syms, symx, seval, c39, bld_noterm, valE_term]
      refine store_own q2 sz33 rfl rfl rfl (fun h' q2' c => ?_)
      replace z := (z.upW _ _ (by omega)).step c (by omega)
      rw [lay_nil h']
      simp -implicitDefEqProofs only [syms, symx, seval, c39, q2'.lay, cells_term, ↓cut_term, agg_term, valE_term]
      have hno := subGet_no (l := l) (s := s) (fun y hy => hlow y (by rw [List.take_of_length_le (by omega)]; exact hy))
      rw [hno] at hk
      exact hk _ (z.upW _ _ (by omega))
    obtain ⟨r, hr, hr'⟩ := amElem (l := l) (i := i) (by assumption)
    repeat' ((first | ((with_reducible  apply forkD ) <;> intro _) | with_reducible_and_instances refine ixb_at (hl.mono z.inc) ds51 sz71 (by omega) hr (fun p hp => ?_) | with_reducible_and_instances refine fdb0 hp fa71_0 (fun q hq => ?_) | with_reducible_and_instances refine fdb1 hp fa71_1 (fun p hp => ?_) | with_reducible_and_instances refine ld_one hq ag9 ?_ | with_reducible_and_instances refine ldt hp ag33 sz33 ?_ | with_reducible refine drawN (by simp only [c39]) (z.upW _ _ (by omega)) ?_ | ((with_reducible refine ⟨z.grw.lay _ _, ?_⟩); (intro _ h' zz x _); (try simp only [lay_lay, List.append_nil] at x); (try replace q0 := q0.over x); (try replace q1 := q1.over x); (try replace q2 := q2.over x); (replace z := zz); (clear zz); rw [lay_nil h'])) <;> simp -implicitDefEqProofs only [syms, symx, seval, c39, q0.lay, q1.lay, hva])
    · have hz := z.size
      refine store_own q2 sz33 rfl rfl rfl (fun h' q2' c => ?_)
      replace z := (z.upW _ _ (by omega)).step c (by omega)
      rw [lay_nil h']
      simp -implicitDefEqProofs only [syms, symx, seval, c39, q2'.lay, cells_term, ↓cut_term, agg_term, valE_term]
      have hat := subGet_at hr' hlow (by assumption)
      rw [hat] at hk
      exact hk _ (z.upW _ _ (by omega))
    · rw [hw (by omega)]
      (rw [hI1]; with_reducible refine loopN_normal (m := _) ?_ ⟨i + 1, _, rfl, z, ⟨rfl, by omega, take_all (i := i) (P := fun y : BindD => y.var ≠ s) hr' hlow (by assumption), q0, q1, q2⟩, junk (by kernel_rfl)⟩; omega)
end Go.Proofs.YtemapihoobmonaaDoor
