/- Walks: an atom's terms; is it ground? Written out by fill2.py. No condition. -/
import Derived.Test.YtompindebndddaaG17
import Derived.Test.YtompindebndddaaZK2
import Derived.Test.YtompindebndddaaG21
namespace Go.Proofs.Ytompindebndddaa
open Go.Am
set_option linter.unusedSimpArgs false
set_option linter.unusedVariables false
set_option maxRecDepth 100000
set_option maxHeartbeats 0
theorem ok_indexTerm (l : List TermD) (v fv : Value) (pr : TermD → Bool) (h : Heap) (hl : Sl Rep.term h v l) (hs : l.length ≤ 1000) (hpf : ∀ (x : TermD) (hc : Heap) (K : Value → Heap → Prop), Ext h hc → (∀ h', Ext hc h' → K (.bool (pr x)) h') → callE Try.prog tab ov [x.val] hc K fv) (K : Value → Heap → Prop)
    (hk : ∀ h', Ext h h' → K (.int .i64 (idxP pr l)) h') : Ok Try.prog tab ov 168 [v, fv] h K := by
  rw [lay_nil h]
  have z := Ext.refl h
  refine Ok.into rfl tab_fn168 (bodyF N168) rfl (m := 17) rfl ?_
  simp -implicitDefEqProofs only [syms, symx, seval, c168]
  repeat' (( with_reducible_and_instances refine ln_rule hl ds159 ?_) <;> simp -implicitDefEqProofs only [syms, symx, seval, c168])
  obtain ⟨I1, hI1⟩ : ∃ I : Nat → Env → Heap → Prop, I = (fun n e h' => ∃ (i : Nat) (h1 : Heap), h' = h1.lay [] h1.low ∧ Ext h h1 ∧ (n = l.length - i ∧ i ≤ l.length ∧ ∀ x ∈ l.take i, pr x = false) ∧ ∃ J : Nat → Value, e = (v :: fv :: jr J 2 5 (.int .i64 l.length :: .int .i64 i :: jr J 9 10 ([])))) := ⟨_, rfl⟩
  refine W_loopN I1 _ (by rw [hI1]; exact ⟨0, _, rfl, z, ⟨rfl, by omega, by simp⟩, junk (by kernel_rfl)⟩) ?_
  intro n e h' hin
  rw [hI1] at hin
  obtain ⟨i, h1', rfl, z, hinv, J, rfl⟩ := hin
  obtain ⟨rfl, hi, hall⟩ := hinv
  have hw : IntKind.i64.wrap ((i : Int) + 1) = ((i + 1 : Nat) : Int) := by rw [wrap_i64 (by omega) (by omega)]; omega
  repeat' (first | simp -implicitDefEqProofs only [syms, symx, seval, c168] | ((with_reducible  apply forkD ) <;> intro _))
  rotate_left
  · rw [List.take_of_length_le (by omega)] at hall
    have := idx_none hall
    rw [this] at hk
    exact hk _ (z.upW _ _ (by omega))
  obtain ⟨r, hr, hr'⟩ := amElem (l := l) (i := i) (by assumption)
  repeat' ((first | with_reducible_and_instances refine ixt_at (hl.mono z.inc) ds159 sz36 (by omega) hr (fun p hp => ?_) | with_reducible_and_instances refine ldt hp ag36 sz36 ?_) <;> simp -implicitDefEqProofs only [syms, symx, seval, c168])
  refine hpf _ _ _ (z.upW _ _ (by omega)) (fun h' x => ?_)
  ((skip); replace z := z.overW x (by (try simp only [lsz]); omega); rw [lay_nil h'])
  cases hx : pr r
  rotate_left
  · simp -implicitDefEqProofs only [syms, symx, seval, c168]
    have := idx_found hr' hall hx
    rw [this] at hk
    exact hk _ (z.upW _ _ (by omega))
  · simp -implicitDefEqProofs only [syms, symx, seval, c168]
    rw [hw]
    (rw [hI1]; with_reducible refine loopN_normal (m := _) ?_ ⟨i + 1, _, rfl, z, ⟨rfl, by omega, take_all (i := i) (P := fun x : TermD => pr x = false) hr' hall hx⟩, junk (by kernel_rfl)⟩; omega)
theorem ok_containsTerm (l : List TermD) (v fv : Value) (pr : TermD → Bool) (h : Heap) (hl : Sl Rep.term h v l) (hs : l.length ≤ 1000) (hpf : ∀ (x : TermD) (hc : Heap) (K : Value → Heap → Prop), Ext h hc → (∀ h', Ext hc h' → K (.bool (pr x)) h') → callE Try.prog tab ov [x.val] hc K fv) (K : Value → Heap → Prop)
    (hk : ∀ h', Ext h h' → K (.bool (l.any pr)) h') : Ok Try.prog tab ov 135 [v, fv] h K := by
  refine Ok.into rfl tab_fn135 (bodyF N135) rfl (m := 7) rfl ?_
  simp -implicitDefEqProofs only [syms, symx, seval, c135]
  refine ok_indexTerm l v fv pr h hl hs hpf _ (fun h' x => ?_)
  simp -implicitDefEqProofs only [syms, symx, seval, c135, idx_any]
  refine forkT (fun hh => ?_) (fun hh => ?_)
  all_goals
    simp -implicitDefEqProofs only [syms, symx, seval, c135]
    rw [hh] at hk
    exact hk _ x
theorem ok_ground1 (x : TermD) (h : Heap) (K : Value → Heap → Prop) (hk : ∀ h', Ext h h' → K (.bool x.v) h') : Ok Try.prog tab ov 137 [x.val] h K := by
  rw [lay_nil h]
  unfold TermD.val TermD.cells
  refine Ok.into rfl tab_fn137 (bodyF N137) rfl (m := 4) rfl ?_
  simp -implicitDefEqProofs only [syms, symx, seval, c137]
  refine forkT (fun hh => ?_) (fun hh => ?_)
  all_goals
    simp -implicitDefEqProofs only [syms, symx, seval, c137]
    rw [hh] at hk
    exact hk _ ((Ext.refl h).upW _ _ (by omega))
theorem sl37 (A o : Nat) (k : Int) (h0 : 0 ≤ k) (h4 : k ≤ 4) : sliceA tab 37 (.pointer (some ⟨A, o, none⟩)) none (some (.int .i64 k)) none = some (.slice (some ⟨A, o, none⟩) k.toNat 4) := by
  have hG : 4 < G := by decide
  simp only [sliceA, ds37, boundsA, bound, if_pos hG, Option.bind_some]
  rw [if_pos ⟨h0, by omega⟩]
  simp [sz36]
theorem ok_args (a : AtomD) (h : Heap) (K : Value → Heap → Prop) (hk : ∀ w h', Ext h h' → Sl Rep.term h' w a.args → K w h') : Ok Try.prog tab ov 136 [a.val] h K := by
  rw [lay_nil h]
  have z := Ext.refl h
  unfold AtomD.val AtomD.cells
  refine Ok.into rfl tab_fn136 (bodyF N136) rfl (m := 8) rfl ?_
  simp -implicitDefEqProofs only [syms, symx, seval, c136]
  refine max_int rfl rfl ?_
  simp -implicitDefEqProofs only [syms, symx, seval, c136]
  refine min_int rfl rfl ?_
  simp -implicitDefEqProofs only [syms, symx, seval, c136]
  rw [sl37 _ _ _ (by split <;> split <;> omega) (by split <;> split <;> omega)]
  simp -implicitDefEqProofs only [syms, symx, seval, c136]
  have hc : (if 4 < (if a.n < 0 then 0 else a.n) then 4 else (if a.n < 0 then 0 else a.n)).toNat = a.cnt := by
    unfold AtomD.cnt
    split <;> split <;> omega
  rw [hc]
  exact hk _ _ (z.upW _ _ (by omega)) (sl_args (a := a) ⟨by rw [lay_size]; simp, by rw [lay_get]; rfl⟩ rfl)
theorem ok_ground (a : AtomD) (h : Heap) (K : Value → Heap → Prop) (hk : ∀ h', Ext h h' → K (.bool a.ground) h') : Ok Try.prog tab ov 80 [a.val] h K := by
  rw [lay_nil h]
  have z := Ext.refl h
  unfold AtomD.val AtomD.cells
  refine Ok.into rfl tab_fn80 (bodyF N80) rfl (m := 6) rfl ?_
  simp -implicitDefEqProofs only [syms, symx, seval, c80]
  refine ok_args a _ _ (fun w h' x ha => ?_)
  ((skip); replace z := z.overW x (by (try simp only [lsz]); omega); (try replace ha := ha.over x); rw [lay_nil h'])
  simp -implicitDefEqProofs only [syms, symx, seval, c80]
  have hcn : a.args.length ≤ 1000 := by rw [args_length]; unfold AtomD.cnt; omega
  refine ok_containsTerm _ _ _ (fun t => t.v) _ (ha.lay _ _) hcn (fun t hc K' _ hK => by rw [callE_func]; exact ok_ground1 t hc K' hK) _ (fun h' x => ?_)
  ((skip); replace z := z.overW x (by (try simp only [lsz]); omega); (try replace ha := ha.over x); rw [lay_nil h'])
  simp -implicitDefEqProofs only [syms, symx, seval, c80]
  refine unop_not rfl ?_
  simp -implicitDefEqProofs only [syms, symx, seval, c80]
  exact hk _ (z.upW _ _ (by omega))
theorem ok_indexAtomF (l : List AtomD) (v fv : Value) (pr : AtomD → Bool) (h : Heap) (hl : Sl Rep.atom h v l) (hs : l.length ≤ 1000) (hpf : ∀ (x : AtomD) (hc : Heap) (K : Value → Heap → Prop), Ext h hc → (∀ h', Ext hc h' → K (.bool (pr x)) h') → callE Try.prog tab ov [x.val] hc K fv) (K : Value → Heap → Prop)
    (hk : ∀ h', Ext h h' → K (.int .i64 (idxP pr l)) h') : Ok Try.prog tab ov 132 [v, fv] h K := by
  rw [lay_nil h]
  have z := Ext.refl h
  refine Ok.into rfl tab_fn132 (bodyF N132) rfl (m := 17) rfl ?_
  simp -implicitDefEqProofs only [syms, symx, seval, c132]
  repeat' (( with_reducible_and_instances refine ln_rule hl ds23 ?_) <;> simp -implicitDefEqProofs only [syms, symx, seval, c132])
  obtain ⟨I1, hI1⟩ : ∃ I : Nat → Env → Heap → Prop, I = (fun n e h' => ∃ (i : Nat) (h1 : Heap), h' = h1.lay [] h1.low ∧ Ext h h1 ∧ (n = l.length - i ∧ i ≤ l.length ∧ ∀ x ∈ l.take i, pr x = false) ∧ ∃ J : Nat → Value, e = (v :: fv :: jr J 2 5 (.int .i64 l.length :: .int .i64 i :: jr J 9 10 ([])))) := ⟨_, rfl⟩
  refine W_loopN I1 _ (by rw [hI1]; exact ⟨0, _, rfl, z, ⟨rfl, by omega, by simp⟩, junk (by kernel_rfl)⟩) ?_
  intro n e h' hin
  rw [hI1] at hin
  obtain ⟨i, h1', rfl, z, hinv, J, rfl⟩ := hin
  obtain ⟨rfl, hi, hall⟩ := hinv
  have hw : IntKind.i64.wrap ((i : Int) + 1) = ((i + 1 : Nat) : Int) := by rw [wrap_i64 (by omega) (by omega)]; omega
  repeat' (first | simp -implicitDefEqProofs only [syms, symx, seval, c132] | ((with_reducible  apply forkD ) <;> intro _))
  rotate_left
  · rw [List.take_of_length_le (by omega)] at hall
    have := idx_none hall
    rw [this] at hk
    exact hk _ (z.upW _ _ (by omega))
  obtain ⟨r, hr, hr'⟩ := amElem (l := l) (i := i) (by assumption)
  repeat' ((first | with_reducible_and_instances refine ixa_at (hl.mono z.inc) ds23 sz39 (by omega) hr (fun p hp => ?_) | with_reducible_and_instances refine lda hp ag39 sz39 ?_) <;> simp -implicitDefEqProofs only [syms, symx, seval, c132])
  refine hpf _ _ _ (z.upW _ _ (by omega)) (fun h' x => ?_)
  ((skip); replace z := z.overW x (by (try simp only [lsz]); omega); rw [lay_nil h'])
  cases hx : pr r
  rotate_left
  · simp -implicitDefEqProofs only [syms, symx, seval, c132]
    have := idx_found hr' hall hx
    rw [this] at hk
    exact hk _ (z.upW _ _ (by omega))
  · simp -implicitDefEqProofs only [syms, symx, seval, c132]
    rw [hw]
    (rw [hI1]; with_reducible refine loopN_normal (m := _) ?_ ⟨i + 1, _, rfl, z, ⟨rfl, by omega, take_all (i := i) (P := fun x : AtomD => pr x = false) hr' hall hx⟩, junk (by kernel_rfl)⟩; omega)
theorem ok_containsAtomF (l : List AtomD) (v fv : Value) (pr : AtomD → Bool) (h : Heap) (hl : Sl Rep.atom h v l) (hs : l.length ≤ 1000) (hpf : ∀ (x : AtomD) (hc : Heap) (K : Value → Heap → Prop), Ext h hc → (∀ h', Ext hc h' → K (.bool (pr x)) h') → callE Try.prog tab ov [x.val] hc K fv) (K : Value → Heap → Prop)
    (hk : ∀ h', Ext h h' → K (.bool (l.any pr)) h') : Ok Try.prog tab ov 78 [v, fv] h K := by
  refine Ok.into rfl tab_fn78 (bodyF N78) rfl (m := 7) rfl ?_
  simp -implicitDefEqProofs only [syms, symx, seval, c78]
  refine ok_indexAtomF l v fv pr h hl hs hpf _ (fun h' x => ?_)
  simp -implicitDefEqProofs only [syms, symx, seval, c78, idx_any]
  refine forkT (fun hh => ?_) (fun hh => ?_)
  all_goals
    simp -implicitDefEqProofs only [syms, symx, seval, c78]
    rw [hh] at hk
    exact hk _ x
theorem ok_indexAtom (l : List AtomD) (v : Value) (a : AtomD) (h : Heap) (hl : Sl Rep.atom h v l) (hs : l.length ≤ 1000) (K : Value → Heap → Prop)
    (hk : ∀ h', Ext h h' → K (.int .i64 (idxP (fun x => decide (a = x)) l)) h') : Ok Try.prog tab ov 138 [v, a.val] h K := by
  rw [lay_nil h]
  have z := Ext.refl h
  refine Ok.into rfl tab_fn138 (bodyF N138) rfl (m := 17) rfl ?_
  simp -implicitDefEqProofs only [syms, symx, seval, c138, cells_atom]
  repeat' (( with_reducible_and_instances refine ln_rule hl ds23 ?_) <;> simp -implicitDefEqProofs only [syms, symx, seval, c138])
  refine W_fold (fun h' x hq => ?_)
  have q0 := hq 0 _ rfl
  clear hq
  (replace z := z.overW x (by (try simp only [lsz]); omega); rw [lay_nil h'])
  obtain ⟨I1, hI1⟩ : ∃ I : Nat → Env → Heap → Prop, I = (fun n e h' => ∃ (i : Nat) (h1 : Heap), h' = h1.lay [] h1.low ∧ Ext h h1 ∧ (n = l.length - i ∧ i ≤ l.length ∧ (∀ x ∈ l.take i, decide (a = x) = false) ∧ Holds h1 (h.size + 0) (.row a.cells 39 false)) ∧ ∃ J : Nat → Value, e = (v :: jr J 1 2 (.pointer (some ⟨h.size + 0, 0, none⟩) :: jr J 4 3 (.int .i64 l.length :: .int .i64 i :: jr J 9 10 ([]))))) := ⟨_, rfl⟩
  refine W_loopN I1 _ (by rw [hI1]; exact ⟨0, _, rfl, z, ⟨rfl, by omega, by simp, q0⟩, junk (by kernel_rfl)⟩) ?_
  intro n e h' hin
  rw [hI1] at hin
  obtain ⟨i, h1', rfl, z, hinv, J, rfl⟩ := hin
  obtain ⟨rfl, hi, hall, q0⟩ := hinv
  have hw : IntKind.i64.wrap ((i : Int) + 1) = ((i + 1 : Nat) : Int) := by rw [wrap_i64 (by omega) (by omega)]; omega
  simp -implicitDefEqProofs only [syms, symx, seval, c138]
  refine forkD (fun hlt => ?_) (fun hlt => ?_)
  rotate_left
  · simp -implicitDefEqProofs only [syms, symx, seval, c138]
    rw [List.take_of_length_le (by omega)] at hall
    have := idx_none hall
    rw [this] at hk
    exact hk _ (z.upW _ _ (by omega))
  obtain ⟨r, hr, hr'⟩ := amElem (l := l) (i := i) hlt
  simp -implicitDefEqProofs only [syms, symx, seval, c138]
  repeat' ((first | ((with_reducible  apply forkD ) <;> intro _) | with_reducible_and_instances refine ixa_at (hl.mono z.inc) ds23 sz39 (by omega) hr (fun p hp => ?_) | with_reducible_and_instances refine lda hp ag39 sz39 ?_ | with_reducible refine drawN (by simp only [c138]) (z.upW _ _ (by omega)) ?_ | ((with_reducible refine ⟨z.grw.lay _ _, ?_⟩); (intro _ h' zz x _); (try simp only [lay_lay, List.append_nil] at x); (try replace q0 := q0.over x); (replace z := zz); (clear zz); rw [lay_nil h'])) <;> simp -implicitDefEqProofs only [syms, symx, seval, c138, q0.lay, ↓cut_atom, agg_atom, bin_atomE, valE_atom])
  · have := idx_found (p := fun x => decide (a = x)) hr' hall (by simpa using (by assumption : a = r))
    rw [this] at hk
    exact hk _ (z.upW _ _ (by omega))
  · rw [hw]
    (rw [hI1]; with_reducible refine loopN_normal (m := _) ?_ ⟨i + 1, _, rfl, z, ⟨rfl, by omega, take_all (i := i) (P := fun x : AtomD => decide (a = x) = false) hr' hall (by simpa using (by assumption : ¬ a = r)), q0⟩, junk (by kernel_rfl)⟩; omega)
theorem ok_containsAtom (l : List AtomD) (v : Value) (a : AtomD) (h : Heap) (hl : Sl Rep.atom h v l) (hs : l.length ≤ 1000) (K : Value → Heap → Prop)
    (hk : ∀ h', Ext h h' → K (.bool (decide (a ∈ l))) h') : Ok Try.prog tab ov 81 [v, a.val] h K := by
  rw [lay_nil h]
  have z := Ext.refl h
  refine Ok.into rfl tab_fn81 (bodyF N81) rfl (m := 7) rfl ?_
  simp -implicitDefEqProofs only [syms, symx, seval, c81, cells_atom, ↓cut_atom, agg_atom, valE_atom]
  refine ok_indexAtom l _ a _ (hl.lay _ _) hs _ (fun h' x => ?_)
  ((skip); replace z := z.overW x (by (try simp only [lsz]); omega); (try replace q0 := q0.over x); rw [lay_nil h'])
  simp -implicitDefEqProofs only [syms, symx, seval, c81, idx_eq]
  refine forkD (fun hh => ?_) (fun hh => ?_)
  · simp -implicitDefEqProofs only [syms, symx, seval, c81]
    rw [decide_eq_true hh] at hk
    exact hk _ (z.upW _ _ (by omega))
  · simp -implicitDefEqProofs only [syms, symx, seval, c81]
    rw [decide_eq_false hh] at hk
    exact hk _ (z.upW _ _ (by omega))
theorem ok_indexReasonF (l : List ReasonD) (v fv : Value) (pr : ReasonD → Bool) (h : Heap) (hl : Sl Rep.reason h v l) (hs : l.length ≤ 1000) (hpf : ∀ (x : ReasonD) (b : Value) (hc : Heap) (K : Value → Heap → Prop), Ext h hc → Sl Rep.atom hc b x.body → (∀ h', Ext hc h' → K (.bool (pr x)) h') → callE Try.prog tab ov [.agg ⟨x.atom.cells ++ [.int .i64 x.clause, b]⟩] hc K fv) (K : Value → Heap → Prop)
    (hk : ∀ h', Ext h h' → K (.int .i64 (idxP pr l)) h') : Ok Try.prog tab ov 83 [v, fv] h K := by
  rw [lay_nil h]
  have z := Ext.refl h
  refine Ok.into rfl tab_fn83 (bodyF N83) rfl (m := 17) rfl ?_
  simp -implicitDefEqProofs only [syms, symx, seval, c83]
  repeat' (( with_reducible_and_instances refine ln_rule hl ds24 ?_) <;> simp -implicitDefEqProofs only [syms, symx, seval, c83])
  obtain ⟨I1, hI1⟩ : ∃ I : Nat → Env → Heap → Prop, I = (fun n e h' => ∃ (i : Nat) (h1 : Heap), h' = h1.lay [] h1.low ∧ Ext h h1 ∧ (n = l.length - i ∧ i ≤ l.length ∧ ∀ x ∈ l.take i, pr x = false) ∧ ∃ J : Nat → Value, e = (v :: fv :: jr J 2 5 (.int .i64 l.length :: .int .i64 i :: jr J 9 10 ([])))) := ⟨_, rfl⟩
  refine W_loopN I1 _ (by rw [hI1]; exact ⟨0, _, rfl, z, ⟨rfl, by omega, by simp⟩, junk (by kernel_rfl)⟩) ?_
  intro n e h' hin
  rw [hI1] at hin
  obtain ⟨i, h1', rfl, z, hinv, J, rfl⟩ := hin
  obtain ⟨rfl, hi, hall⟩ := hinv
  have hw : IntKind.i64.wrap ((i : Int) + 1) = ((i + 1 : Nat) : Int) := by rw [wrap_i64 (by omega) (by omega)]; omega
  repeat' (first | simp -implicitDefEqProofs only [syms, symx, seval, c83] | ((with_reducible  apply forkD ) <;> intro _))
  rotate_left
  · rw [List.take_of_length_le (by omega)] at hall
    have := idx_none hall
    rw [this] at hk
    exact hk _ (z.upW _ _ (by omega))
  obtain ⟨r, hr, hr'⟩ := amElem (l := l) (i := i) (by assumption)
  repeat' ((first | with_reducible_and_instances refine ixr_at (hl.mono z.inc) ds24 sz41 (by omega) hr (fun p b hb hp => ?_) | with_reducible_and_instances refine ldr hp ag41 sz41 ?_) <;> simp -implicitDefEqProofs only [syms, symx, seval, c83])
  refine hpf _ _ _ _ (z.upW _ _ (by omega)) (hb.lay _ _) (fun h' x => ?_)
  ((skip); replace z := z.overW x (by (try simp only [lsz]); omega); rw [lay_nil h'])
  cases hx : pr r
  rotate_left
  · simp -implicitDefEqProofs only [syms, symx, seval, c83]
    have := idx_found hr' hall hx
    rw [this] at hk
    exact hk _ (z.upW _ _ (by omega))
  · simp -implicitDefEqProofs only [syms, symx, seval, c83]
    rw [hw]
    (rw [hI1]; with_reducible refine loopN_normal (m := _) ?_ ⟨i + 1, _, rfl, z, ⟨rfl, by omega, take_all (i := i) (P := fun x : ReasonD => pr x = false) hr' hall hx⟩, junk (by kernel_rfl)⟩; omega)
theorem cut_rea (a : AtomD) (u v : Value) : Option.map (fun l => Value.agg l.toArray) (if 11 ≤ (a.cells ++ [u, v]).length then some (List.take 11 (a.cells ++ [u, v])) else none) = some a.val := by
  have h : (a.cells ++ [u, v]).length = 13 := rfl
  have h2 : List.take 11 (a.cells ++ [u, v]) = a.cells := rfl
  rw [h, h2]
  rfl
theorem ok_find1 (a : AtomD) (x : ReasonD) (b : Value) (A : Nat) (h : Heap) (q0 : Holds h A (.row a.cells 39 false)) (K : Value → Heap → Prop)
    (hk : ∀ h', Ext h h' → K (.bool (decide (x.atom = a))) h') : Ok Try.prog tab ov 84 [.agg ⟨x.atom.cells ++ [.int .i64 x.clause, b]⟩, .pointer (some ⟨A, 0, none⟩)] h K := by
  rw [lay_nil h]
  have z := Ext.refl h
  refine Ok.into rfl tab_fn84 (bodyF N84) rfl (m := 6) rfl ?_
  simp -implicitDefEqProofs only [syms, symx, seval, c84, cells_atom]
  repeat' ((first | ((with_reducible first | apply forkD | apply forkB | apply forkN | apply forkNP | apply forkNot) <;> intro _) | with_reducible_and_instances refine ixr_at (hl.mono z.inc) ds24 sz41 (by omega) hr (fun p b hb hp => ?_) | with_reducible_and_instances refine ldr hp ag41 sz41 ?_) <;> simp -implicitDefEqProofs only [syms, symx, seval, c84, q0.lay, ↓cut_rea, ↓cut_atom, agg_atom, bin_atomE, valE_atom])
  simp -implicitDefEqProofs only [syms, symx, seval, c84, q0.lay, ↓cut_rea, ↓cut_atom, agg_atom, bin_atomE, valE_atom]
  refine forkD (fun hh => ?_) (fun hh => ?_)
  · simp -implicitDefEqProofs only [syms, symx, seval, c84]
    rw [decide_eq_true hh] at hk
    exact hk _ (z.upW _ _ (by omega))
  · simp -implicitDefEqProofs only [syms, symx, seval, c84]
    rw [decide_eq_false hh] at hk
    exact hk _ (z.upW _ _ (by omega))
theorem ok_find (l : List ReasonD) (v : Value) (a : AtomD) (h : Heap) (hl : Sl Rep.reason h v l) (hs : l.length ≤ 1000) (K : Value → Heap → Prop)
    (hk : ∀ h' v', Ext h h' → (v' = if l.any (fun x => decide (x.atom = a)) then .tuple #[.int .i64 (idxP (fun x => decide (x.atom = a)) l), .bool true] else .tuple #[.int .i64 0, .bool false]) → K v' h') : Ok Try.prog tab ov 22 [v, a.val] h K := by
  rw [lay_nil h]
  have z := Ext.refl h
  refine Ok.into rfl tab_fn22 (bodyF N22) rfl (m := 11) rfl ?_
  simp -implicitDefEqProofs only [syms, symx, seval, c22, cells_atom, ↓cut_atom, agg_atom, valE_atom]
  repeat' ((first | ((with_reducible first | apply forkD | apply forkB | apply forkN | apply forkNP | apply forkNot) <;> intro _) | with_reducible_and_instances refine ixr_at (hl.mono z.inc) ds24 sz41 (by omega) hr (fun p b hb hp => ?_) | with_reducible_and_instances refine ldr hp ag41 sz41 ?_) <;> simp -implicitDefEqProofs only [syms, symx, seval, c22])
  refine ok_indexReasonF l v _ (fun x => decide (x.atom = a)) _ (hl.lay _ _) hs (fun x b hc K' xe hb hk' => ?_) _ (fun h' x => ?_)
  · rw [callE_clos]
    exact ok_find1 a x b _ hc (Holds.top (i := 0) xe rfl) K' hk'
  ((skip); replace z := z.overW x (by (try simp only [lsz]); omega); rw [lay_nil h'])
  simp -implicitDefEqProofs only [syms, symx, seval, c22]
  have he := idx_any (fun x : ReasonD => decide (x.atom = a)) l
  simp -implicitDefEqProofs only [syms, symx, seval, c22, he]
  refine forkT (fun hh => ?_) (fun hh => ?_)
  all_goals
    simp -implicitDefEqProofs only [syms, symx, seval, c22]
    refine hk _ _ (z.upW _ _ (by omega)) ?_
    rw [hh]
    rfl
end Go.Proofs.Ytompindebndddaa
