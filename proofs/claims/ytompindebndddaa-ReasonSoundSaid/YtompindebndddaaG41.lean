/- Walks: what is gone through, on; clauses. Written out by fill2.py. No condition. -/
import Derived.Test.YtompindebndddaaG40
import Derived.Test.YtompindebndddaaZD4
import Derived.Test.YtompindebndddaaZT1
namespace Go.Proofs.Ytompindebndddaa
open Go.Am
set_option linter.unusedSimpArgs false
set_option linter.unusedVariables false
set_option maxRecDepth 100000
set_option maxHeartbeats 0
theorem ok_lightClauses (l : List ClauseD) (facts : List AtomD) (v w : Value) (h : Heap) (hl : Sl Rep.clause h v l) (hf : Sl Rep.atom h w facts) (K : Value → Heap → Prop)
    (h1 : l.length ≤ 6 → facts.length ≤ 12 → (∀ r ∈ l, r.body.length ≤ 3) → ∀ h', Ext h h' → K (.bool true) h') (h2 : ∀ h', Ext h h' → K (.bool false) h') : Ok Try.prog tab ov 14 [v, w] h K := by
  rw [lay_nil h]
  have z := Ext.refl h
  refine Ok.into rfl tab_fn14 (bodyF N14) rfl (m := 34) rfl ?_
  simp -implicitDefEqProofs only [syms, symx, seval, c14]
  repeat' ((first | ((with_reducible  apply forkD ) <;> intro _) | with_reducible_and_instances refine ln_rule hl ds22 ?_ | ((with_reducible_and_instances refine ok_lights _ _ _ _ ((hf.mono z.inc).lay _ _) _ (fun hlf hfl h' x => ?_) (fun h' x => ?_)) <;> ((skip); replace z := z.overW x (by (try simp only [lsz]); omega); rw [lay_nil h'])) | ((with_reducible_and_instances apply unop_not); (· rfl))) <;> simp -implicitDefEqProofs only [syms, symx, seval, c14])
  all_goals try exact h2 _ (z.upW _ _ (by omega))
  obtain ⟨I1, hI1⟩ : ∃ I : Nat → Env → Heap → Prop, I = (fun n e h' => ∃ (i : Nat) (h1 : Heap), h' = h1.lay [] h1.low ∧ Ext h h1 ∧ (n = l.length - i ∧ i ≤ l.length ∧ ∀ r ∈ l.take i, r.body.length ≤ 3) ∧ ∃ J : Nat → Value, e = (v :: jr J 1 4 (.int .i64 i :: jr J 6 30 ([])))) := ⟨_, rfl⟩
  refine W_loopN I1 _ (by rw [hI1]; exact ⟨0, _, rfl, z, ⟨rfl, by omega, by simp⟩, junk (by kernel_rfl)⟩) ?_
  intro n e h' hin
  rw [hI1] at hin
  obtain ⟨i, h1', rfl, z, hinv, J, rfl⟩ := hin
  obtain ⟨rfl, hi, hall⟩ := hinv
  have hw : IntKind.i64.wrap ((i : Int) + 1) = ((i + 1 : Nat) : Int) := by rw [wrap_i64 (by omega) (by omega)]; omega
  repeat' (first | simp -implicitDefEqProofs only [syms, symx, seval, c14] | ((with_reducible  apply forkD ) <;> intro _) | with_reducible_and_instances refine ln_rule hl ds22 ?_)
  rotate_left
  · exact h1 (by omega) (by omega) (by rw [List.take_of_length_le (by omega)] at hall; exact hall) _ (z.upW _ _ (by omega))
  obtain ⟨r, hr, hr'⟩ := amElem (l := l) (i := i) (by assumption)
  repeat' ((first | with_reducible_and_instances refine ixc_at (hl.mono z.inc) ds22 sz47 (by omega) hr (fun p bd hbd hp => ?_) | with_reducible_and_instances refine fdc0 hp fa47_0 (fun p hp => ?_) | with_reducible_and_instances refine fdc1 hp fa47_1 (fun q hq => ?_) | with_reducible_and_instances refine lda hp ag39 sz39 ?_ | with_reducible_and_instances refine ld_one hq ag23 ?_ | ((with_reducible_and_instances refine ok_light _ _ _ (fun hla h' x => ?_) (fun hla h' x => ?_)) <;> ((skip); replace z := z.overW x (by (try simp only [lsz]); omega); rw [lay_nil h'])) | ((with_reducible_and_instances refine ok_lights _ _ _ _ (hbd.mono (Inc.lay _ _ _)) _ (fun hlen hlb h' x => ?_) (fun h' x => ?_)) <;> ((skip); replace z := z.overW x (by (try simp only [lsz]); omega); rw [lay_nil h'])) | ((with_reducible_and_instances apply unop_not); (· rfl))) <;> simp -implicitDefEqProofs only [syms, symx, seval, c14])
  all_goals first
    | with_reducible exact h2 _ (z.upW _ _ (by omega))
    | (rw [hw]; (rw [hI1]; with_reducible refine loopN_normal (m := _) ?_ ⟨i + 1, _, rfl, z, ⟨rfl, by omega, take_all (i := i) (P := fun r : ClauseD => r.body.length ≤ 3) hr' hall (by show r.body.length ≤ 3; omega)⟩, junk (by kernel_rfl)⟩; omega))
theorem ok_getT (l : List BindD) (v : Value) (s : ByteArray) (h : Heap) (hl : Sl Rep.bind h v l) (hs : l.length ≤ 1000) (K : Value → Heap → Prop)
    (hk : ∀ h', Ext h h' → K (.tuple #[(subGet l s).1.val, .bool (subGet l s).2]) h') : Ok Try.prog tab ov 201 [v, .string s] h K := by
  rw [lay_nil h]
  have z := Ext.refl h
  have hva := vSelf v
  have hlv := fun (hh : Heap) => hl.lenA ds162 hh
  refine Ok.into rfl tab_fn201 (bodyF N201) rfl (m := 24) rfl ?_
  repeat' ( simp -implicitDefEqProofs only [syms, symx, seval, c201])
  refine W_fold (fun h' x hq => ?_)
  have q0 := hq 0 _ rfl
  clear hq
  (replace z := z.overW x (by (try simp only [lsz]); omega); rw [lay_nil h'])
  have hz0 := z.size
  obtain ⟨A0, hA0⟩ : ∃ A0, A0 = h.size + 0 := ⟨_, rfl⟩
  rw [← hA0] at q0
  rw [← hA0]
  obtain ⟨I1, hI1⟩ : ∃ I : Nat → Env → Heap → Prop, I = (fun n e h' => ∃ (i : Nat) (h1 : Heap), h' = h1.lay [] h1.low ∧ Ext h h1 ∧ (n = l.length - i ∧ i ≤ l.length ∧ (∀ y ∈ l.take i, y.var ≠ s) ∧ Holds h1 A0 (.row [.bool false, .string ⟨#[]⟩] 36 false)) ∧ ∃ J : Nat → Value, e = (v :: .string s :: jr J 2 2 (.pointer (some ⟨A0, 0, none⟩) :: J 5 :: .int .i64 i :: jr J 7 19 ([])))) := ⟨_, rfl⟩
  refine W_loopN I1 _ (by rw [hI1]; exact ⟨0, _, rfl, z, ⟨rfl, by omega, by simp, q0⟩, junk (by kernel_rfl)⟩) ?_
  intro n e h' hin
  rw [hI1] at hin
  obtain ⟨i, h1', rfl, z, hinv, J, rfl⟩ := hin
  clear q0
  obtain ⟨rfl, hi, hlow, q0⟩ := hinv
  have hw : IntKind.i64.wrap ((i : Int) + 1) = ((i + 1 : Nat) : Int) := by rw [wrap_i64 (by omega) (by omega)]; omega
  have hz := z.size
  simp -implicitDefEqProofs only [syms, symx, seval, c201, hva, hlv]
  refine forkD (fun hlt => ?_) (fun hlt => ?_)
  rotate_left
  · repeat' ( simp -implicitDefEqProofs only [syms, symx, seval, c201, bld_noterm, valE_term])
    refine store_own q0 sz36 rfl rfl rfl (fun h' q0' c => ?_)
    replace z := (z.upW _ _ (by omega)).step c (by omega)
    rw [lay_nil h']
    simp -implicitDefEqProofs only [syms, symx, seval, c201, q0'.lay, cells_term, ↓cut_term, agg_term, valE_term]
    have hno := subGet_no (l := l) (s := s) (fun y hy => hlow y (by rw [List.take_of_length_le (by omega)]; exact hy))
    rw [hno] at hk
    exact hk _ (z.upW _ _ (by omega))
  obtain ⟨r, hr, hr'⟩ := amElem (l := l) (i := i) (by omega)
  repeat' (first | simp -implicitDefEqProofs only [syms, symx, seval, c201, hva] | ((with_reducible  apply forkD ) <;> intro _) | with_reducible_and_instances refine ixb_at (hl.mono z.inc) ds162 sz192 (by omega) hr (fun p hp => ?_) | with_reducible_and_instances refine fdb0 hp fa192_0 (fun q hq => ?_) | with_reducible_and_instances refine fdb1 hp fa192_1 (fun p hp => ?_) | with_reducible_and_instances refine ld_one hq ag9 ?_ | with_reducible_and_instances refine ldt hp ag36 sz36 ?_)
  · refine store_own q0 sz36 rfl rfl rfl (fun h' q0' c => ?_)
    replace z := (z.upW _ _ (by omega)).step c (by omega)
    rw [lay_nil h']
    simp -implicitDefEqProofs only [syms, symx, seval, c201, q0'.lay, cells_term, ↓cut_term, agg_term, valE_term]
    have hat := subGet_at hr' hlow (by assumption)
    rw [hat] at hk
    exact hk _ (z.upW _ _ (by omega))
  · rw [hw]
    (rw [hI1]; with_reducible refine loopN_normal (m := _) ?_ ⟨i + 1, _, rfl, z, ⟨rfl, by omega, take_all (i := i) (P := fun y : BindD => y.var ≠ s) hr' hlow (by assumption), q0⟩, junk (by kernel_rfl)⟩; omega)
theorem cell_t0 (t : TermD) : t.cells[0]? = some (.bool t.v) := rfl
theorem cell_t1 (t : TermD) : t.cells[1]? = some (.string t.s) := rfl
def noBindD : BindD := ⟨⟨#[]⟩, noTermD⟩
theorem ok_termT (l : List BindD) (v : Value) (t : TermD) (h : Heap) (hl : Sl Rep.bind h v l) (hs : l.length ≤ 1000) (K : Value → Heap → Prop)
    (hk : ∀ h', Ext h h' → K (termD l t).val h') : Ok Try.prog tab ov 198 [v, t.val] h K := by
  rw [lay_nil h]
  have z := Ext.refl h
  have hva := vSelf v
  refine Ok.into rfl tab_fn198 (bodyF N198) rfl (m := 17) rfl ?_
  simp -implicitDefEqProofs only [syms, symx, seval, c198, cells_term, cell_t0, cell_t1]
  refine forkT (fun hv => ?_) (fun hv => ?_)
  rotate_left
  · have e : termD l t = t := by unfold termD; rw [if_neg (by rw [hv]; simp)]
    rw [e] at hk
    repeat' ( simp -implicitDefEqProofs only [syms, symx, seval, c198, cells_term, ↓cut_term, agg_term, valE_term])
    refine store_lay (i := 1) (by rfl) sz36 (by rfl) (cells_term t) rfl rfl ?_
    simp -implicitDefEqProofs only [syms, symx, seval, c198, ↓cut_term, agg_term, valE_term]
    exact hk _ (z.upW _ _ (by omega))
  repeat' ( simp -implicitDefEqProofs only [syms, symx, seval, c198, cells_term, cell_t0, cell_t1, hva])
  refine ok_getT l v t.s _ (hl.lay _ _) hs _ (fun h' x => ?_)
  have q0 := Holds.top (i := 0) x rfl
  have q1 := Holds.top (i := 1) x rfl
  ((skip); replace z := z.overW x (by (try simp only [lsz]); omega); rw [lay_nil h'])
  have hz := z.size
  have e : termD l t = if (subGet l t.s).2 = true then (subGet l t.s).1 else t := by unfold termD; rw [hv]; simp
  rw [e] at hk
  rcases hg : subGet l t.s with ⟨⟨tv, ts⟩, pb⟩
  rw [hg] at hk
  cases pb
  all_goals
    repeat' ( simp -implicitDefEqProofs only [syms, symx, seval, c198, lay_set, storeO_row, List.all_cons, List.all_nil, Am.one, Bool.and_true, Bool.true_and, Bool.and_self, List.set_cons_zero, List.set_cons_succ, st4, st3, st9, st36, st39, st47, st41, st192, q0.lay, q1.lay, cells_term, TermD.val, TermD.cells, ↓cut_term, agg_term, valE_term])
  all_goals
    refine store_own q1 sz36 rfl rfl rfl (fun h2' q1' c => ?_)
    replace z := (z.upW _ _ (by omega)).step c (by omega)
    rw [lay_nil h2']
    simp -implicitDefEqProofs only [syms, symx, seval, c198, q1'.lay, ↓cut_term, agg_term, valE_term, TermD.cells]
    exact hk _ (z.upW _ _ (by omega))
theorem ok_checkT (l : List BindD) (v : Value) (h : Heap) (hl : Sl Rep.bind h v l) (hs : l.length ≤ 1000) (K : Value → Heap → Prop)
    (hk : ∀ h' e, Ext h h' → (e = 0 ↔ ChkD l) → K (.int .i64 e) h') : Ok Try.prog tab ov 199 [v] h K := by
  rw [lay_nil h]
  have z := Ext.refl h
  have hva := vSelf v
  have hlv := fun (hh : Heap) => hl.lenA ds162 hh
  have hno : ¬ ChkD l → ∀ h', Ext h h' → K (.int .i64 15) h' := fun hn h' x => hk h' 15 x ⟨fun hh => absurd hh (by decide), fun hh => absurd hh hn⟩
  refine Ok.into rfl tab_fn199 (bodyF N199) rfl (m := 54) rfl ?_
  simp -implicitDefEqProofs only [syms, symx, seval, c199]
  obtain ⟨I1, hI1⟩ : ∃ I : Nat → Env → Heap → Prop, I = (fun n e h' => ∃ (i : Nat) (h1 : Heap), h' = h1.lay [] h1.low ∧ Ext h h1 ∧ (n = l.length - i ∧ i ≤ l.length ∧ Rising l i ∧ (∀ b ∈ l.take i, b.term.s ≠ ⟨#[]⟩ ∧ ¬ (b.term.v = true ∧ (subGet l b.term.s).2 = true))) ∧ ∃ J : Nat → Value, e = (v :: jr J 1 2 (.int .i64 i :: jr J 4 51 ([])))) := ⟨_, rfl⟩
  refine W_loopN I1 _ (by rw [hI1]; exact ⟨0, _, rfl, z, ⟨rfl, by omega, rising_one (by omega), by simp⟩, junk (by kernel_rfl)⟩) ?_
  intro n e h' hin
  rw [hI1] at hin
  obtain ⟨i, h1', rfl, z, hinv, J, rfl⟩ := hin
  obtain ⟨rfl, hi, hri, hall⟩ := hinv
  have hw : IntKind.i64.wrap ((i : Int) + 1) = ((i + 1 : Nat) : Int) := by rw [wrap_i64 (by omega) (by omega)]; omega
  simp -implicitDefEqProofs only [syms, symx, seval, c199, hva, hlv]
  refine forkD (fun hlt => ?_) (fun hlt => ?_)
  rotate_left
  · have he : i = l.length := by omega
    rw [List.take_of_length_le (by omega)] at hall
    rw [he] at hri
    repeat' ( simp -implicitDefEqProofs only [syms, symx, seval, c199])
    exact hk _ _ (z.upW _ _ (by omega)) ⟨fun _ => ⟨hri, hall⟩, fun _ => rfl⟩
  obtain ⟨r, hr, hr'⟩ := amElem (l := l) (i := i) (by omega)
  have hmem := List.mem_of_getElem? hr'
  obtain ⟨x0, hx0, hx0'⟩ : ∃ x0, (0 < i → l[((i : Int) - 1).toNat]? = some x0) ∧ (0 < i → l[i - 1]? = some x0) := by
    by_cases h0 : 0 < i
    · have e : ((i : Int) - 1).toNat = i - 1 := by omega
      rw [e]
      exact ⟨l[i - 1]'(by omega), fun _ => List.getElem?_eq_getElem (by omega), fun _ => List.getElem?_eq_getElem (by omega)⟩
    · exact ⟨noBindD, fun h => absurd h h0, fun h => absurd h h0⟩
  have hw0 : IntKind.i64.wrap ((i : Int) - 1) = (i : Int) - 1 := by rw [wrap_i64 (by omega) (by omega)]
  repeat' (first | simp -implicitDefEqProofs only [syms, symx, seval, c199, hva, hw0, bin_sge] | with_reducible refine drawN (by simp only [c199]) (z.upW _ _ (by omega)) ?_ | ((with_reducible first | apply forkD | apply forkNot) <;> intro _) | with_reducible_and_instances refine ixb_at (hl.mono z.inc) ds162 sz192 (by omega) (hx0 (by omega)) (fun p hp => ?_) | with_reducible_and_instances refine ixb_at (hl.mono z.inc) ds162 sz192 (by omega) hr (fun p hp => ?_) | with_reducible_and_instances refine fdb0 hp fa192_0 (fun q hq => ?_) | with_reducible_and_instances refine fdb1 hp fa192_1 (fun p hp => ?_) | with_reducible_and_instances refine fdt0 hp fa36_0 (fun q hq => ?_) | with_reducible_and_instances refine fdt1 hp fa36_1 (fun q hq => ?_) | with_reducible_and_instances refine ld_one hq ag9 ?_ | with_reducible_and_instances refine ld_one hq ag4 ?_ | ((with_reducible refine ⟨z.grw.lay _ _, ?_⟩); (intro _ h' zz x _); (try simp only [lay_lay, List.append_nil] at x); (replace z := zz); (clear zz); rw [lay_nil h']))
  all_goals try
    ((with_reducible refine hno (fun hh => ?_) _ (z.upW _ _ (by omega)))
     first
       | exact (hh.2 r hmem).1 (by assumption)
       | (have hq1 := rising_lt hh.1 (i := i - 1) (j := i) (by omega) (hx0' (by omega)) hr'
          simp_all))
  all_goals
    have hri2 : Rising l (i + 1) := by
      first
        | exact rising_next hri (by omega) (hx0' (by omega)) hr' (by assumption)
        | exact rising_one (by omega)
    have hne : r.term.s ≠ ⟨#[]⟩ := by assumption
    refine condE_split (fun hv => ?_) (fun hv => ?_)
    rotate_left
    · have hnx : ∀ b ∈ l.take (i + 1), b.term.s ≠ ⟨#[]⟩ ∧ ¬ (b.term.v = true ∧ (subGet l b.term.s).2 = true) := take_all (i := i) (P := fun b : BindD => b.term.s ≠ ⟨#[]⟩ ∧ ¬ (b.term.v = true ∧ (subGet l b.term.s).2 = true)) hr' hall ⟨hne, by rw [hv]; simp⟩
      repeat' ( simp -implicitDefEqProofs only [syms, symx, seval, c199, hva])
      rw [hw]
      (rw [hI1]; with_reducible refine loopN_normal (m := _) ?_ ⟨i + 1, _, rfl, z, ⟨rfl, by omega, hri2, hnx⟩, junk (by kernel_rfl)⟩; omega)
    rcases hg : subGet l r.term.s with ⟨⟨tv, ts⟩, pb⟩
    clear hp hq
    repeat' (first | simp -implicitDefEqProofs only [syms, symx, seval, c199, hva] | with_reducible_and_instances refine ixb_at (hl.mono z.inc) ds162 sz192 (by omega) hr (fun p hp => ?_) | with_reducible_and_instances refine fdb1 hp fa192_1 (fun p hp => ?_) | with_reducible_and_instances refine fdt1 hp fa36_1 (fun q hq => ?_) | with_reducible_and_instances refine ld_one hq ag9 ?_)
    refine ok_getT l v r.term.s _ ((hl.mono z.inc).lay _ _) hs _ (fun h' x => ?_)
    rw [hg]
    (( skip); replace z := z.overW x (by (try simp only [lsz]); omega); rw [lay_nil h'])
    cases pb
    all_goals
      repeat' ( simp -implicitDefEqProofs only [syms, symx, seval, c199, lay_set, storeO_row, List.all_cons, List.all_nil, Am.one, Bool.and_true, Bool.true_and, Bool.and_self, List.set_cons_zero, List.set_cons_succ, st4, st3, st9, st36, st39, st47, st41, st192, TermD.val, TermD.cells])
    · have hnx : ∀ b ∈ l.take (i + 1), b.term.s ≠ ⟨#[]⟩ ∧ ¬ (b.term.v = true ∧ (subGet l b.term.s).2 = true) := take_all (i := i) (P := fun b : BindD => b.term.s ≠ ⟨#[]⟩ ∧ ¬ (b.term.v = true ∧ (subGet l b.term.s).2 = true)) hr' hall ⟨hne, by rw [hg]; simp⟩
      rw [hw]
      refine loop_heap (z.upW _ _ (by omega)) (fun H z => ?_)
      (rw [hI1]; with_reducible refine loopN_normal (m := _) ?_ ⟨i + 1, _, rfl, z, ⟨rfl, by omega, hri2, hnx⟩, junk (by kernel_rfl)⟩; omega)
    · exact hno (fun hh => (hh.2 r hmem).2 ⟨hv, by rw [hg]⟩) _ (z.upW _ _ (by omega))
end Go.Proofs.Ytompindebndddaa
