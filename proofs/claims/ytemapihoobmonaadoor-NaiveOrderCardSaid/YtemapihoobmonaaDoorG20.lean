/- Walks: an atom's terms; is it ground? Written out by fill2.py. No condition. -/
import Derived.Test.YtemapihoobmonaaDoorG16
import Derived.Test.YtemapihoobmonaaDoorG19
namespace Go.Proofs.YtemapihoobmonaaDoor
open Go.Am
set_option linter.unusedSimpArgs false
set_option linter.unusedVariables false
set_option maxRecDepth 100000
set_option maxHeartbeats 0
theorem ok_indexTerm (l : List TermD) (v fv : Value) (pr : TermD → Bool) (h : Heap) (hl : Sl Rep.term h v l) (hs : l.length ≤ 1000) (hpf : ∀ (x : TermD) (hc : Heap) (K : Value → Heap → Prop), Ext h hc → (∀ h', Ext hc h' → K (.bool (pr x)) h') → callE Tryd.prog tab ov [x.val] hc K fv) (K : Value → Heap → Prop)
    (hk : ∀ h', Ext h h' → K (.int .i64 (idxP pr l)) h') : Ok Tryd.prog tab ov 68 [v, fv] h K := by
  rw [lay_nil h]
  have z := Ext.refl h
  refine Ok.into rfl tab_fn68 (bodyF N68) rfl (m := 17) rfl ?_
  simp -implicitDefEqProofs only [syms, symx, seval, c68]
  repeat' (( with_reducible_and_instances refine ln_rule hl ds79 ?_) <;> simp -implicitDefEqProofs only [syms, symx, seval, c68])
  obtain ⟨I1, hI1⟩ : ∃ I : Nat → Env → Heap → Prop, I = (fun n e h' => ∃ (i : Nat) (h1 : Heap), h' = h1.lay [] h1.low ∧ Ext h h1 ∧ (n = l.length - i ∧ i ≤ l.length ∧ ∀ x ∈ l.take i, pr x = false) ∧ ∃ J : Nat → Value, e = (v :: fv :: jr J 2 5 (.int .i64 l.length :: .int .i64 i :: jr J 9 10 ([])))) := ⟨_, rfl⟩
  refine W_loopN I1 _ (by rw [hI1]; exact ⟨0, _, rfl, z, ⟨rfl, by omega, by simp⟩, junk (by kernel_rfl)⟩) ?_
  intro n e h' hin
  rw [hI1] at hin
  obtain ⟨i, h1', rfl, z, hinv, J, rfl⟩ := hin
  obtain ⟨rfl, hi, hall⟩ := hinv
  have hw : IntKind.i64.wrap ((i : Int) + 1) = ((i + 1 : Nat) : Int) := by rw [wrap_i64 (by omega) (by omega)]; omega
  repeat' (first | simp -implicitDefEqProofs only [syms, symx, seval, c68] | ((with_reducible  apply forkD ) <;> intro _))
  rotate_left
  · rw [List.take_of_length_le (by omega)] at hall
    have := idx_none hall
    rw [this] at hk
    exact hk _ (z.upW _ _ (by omega))
  obtain ⟨r, hr, hr'⟩ := amElem (l := l) (i := i) (by assumption)
  repeat' ((first | with_reducible_and_instances refine ixt_at (hl.mono z.inc) ds79 sz33 (by omega) hr (fun p hp => ?_) | with_reducible_and_instances refine ldt hp ag33 sz33 ?_) <;> simp -implicitDefEqProofs only [syms, symx, seval, c68])
  refine hpf _ _ _ (z.upW _ _ (by omega)) (fun h' x => ?_)
  ((skip); replace z := z.overW x (by (try simp only [lsz]); omega); rw [lay_nil h'])
  cases hx : pr r
  rotate_left
  · simp -implicitDefEqProofs only [syms, symx, seval, c68]
    have := idx_found hr' hall hx
    rw [this] at hk
    exact hk _ (z.upW _ _ (by omega))
  · simp -implicitDefEqProofs only [syms, symx, seval, c68]
    rw [hw]
    (rw [hI1]; with_reducible refine loopN_normal (m := _) ?_ ⟨i + 1, _, rfl, z, ⟨rfl, by omega, take_all (i := i) (P := fun x : TermD => pr x = false) hr' hall hx⟩, junk (by kernel_rfl)⟩; omega)
theorem ok_containsTerm (l : List TermD) (v fv : Value) (pr : TermD → Bool) (h : Heap) (hl : Sl Rep.term h v l) (hs : l.length ≤ 1000) (hpf : ∀ (x : TermD) (hc : Heap) (K : Value → Heap → Prop), Ext h hc → (∀ h', Ext hc h' → K (.bool (pr x)) h') → callE Tryd.prog tab ov [x.val] hc K fv) (K : Value → Heap → Prop)
    (hk : ∀ h', Ext h h' → K (.bool (l.any pr)) h') : Ok Tryd.prog tab ov 47 [v, fv] h K := by
  refine Ok.into rfl tab_fn47 (bodyF N47) rfl (m := 7) rfl ?_
  simp -implicitDefEqProofs only [syms, symx, seval, c47]
  refine ok_indexTerm l v fv pr h hl hs hpf _ (fun h' x => ?_)
  simp -implicitDefEqProofs only [syms, symx, seval, c47, idx_any]
  refine forkT (fun hh => ?_) (fun hh => ?_)
  all_goals
    simp -implicitDefEqProofs only [syms, symx, seval, c47]
    rw [hh] at hk
    exact hk _ x
theorem ok_ground1 (x : TermD) (h : Heap) (K : Value → Heap → Prop) (hk : ∀ h', Ext h h' → K (.bool x.v) h') : Ok Tryd.prog tab ov 53 [x.val] h K := by
  rw [lay_nil h]
  unfold TermD.val TermD.cells
  refine Ok.into rfl tab_fn53 (bodyF N53) rfl (m := 4) rfl ?_
  simp -implicitDefEqProofs only [syms, symx, seval, c53]
  refine forkT (fun hh => ?_) (fun hh => ?_)
  all_goals
    simp -implicitDefEqProofs only [syms, symx, seval, c53]
    rw [hh] at hk
    exact hk _ ((Ext.refl h).upW _ _ (by omega))
theorem sl34 (A o : Nat) (k : Int) (h0 : 0 ≤ k) (h4 : k ≤ 4) : sliceA tab 34 (.pointer (some ⟨A, o, none⟩)) none (some (.int .i64 k)) none = some (.slice (some ⟨A, o, none⟩) k.toNat 4) := by
  have hG : 4 < G := by decide
  simp only [sliceA, ds34, boundsA, bound, if_pos hG, Option.bind_some]
  rw [if_pos ⟨h0, by omega⟩]
  simp [sz33]
theorem ok_args (a : AtomD) (h : Heap) (K : Value → Heap → Prop) (hk : ∀ w h', Ext h h' → Sl Rep.term h' w a.args → K w h') : Ok Tryd.prog tab ov 48 [a.val] h K := by
  rw [lay_nil h]
  have z := Ext.refl h
  unfold AtomD.val AtomD.cells
  refine Ok.into rfl tab_fn48 (bodyF N48) rfl (m := 8) rfl ?_
  simp -implicitDefEqProofs only [syms, symx, seval, c48]
  refine max_int rfl rfl ?_
  simp -implicitDefEqProofs only [syms, symx, seval, c48]
  refine min_int rfl rfl ?_
  simp -implicitDefEqProofs only [syms, symx, seval, c48]
  rw [sl34 _ _ _ (by split <;> split <;> omega) (by split <;> split <;> omega)]
  simp -implicitDefEqProofs only [syms, symx, seval, c48]
  have hc : (if 4 < (if a.n < 0 then 0 else a.n) then 4 else (if a.n < 0 then 0 else a.n)).toNat = a.cnt := by
    unfold AtomD.cnt
    split <;> split <;> omega
  rw [hc]
  exact hk _ _ (z.upW _ _ (by omega)) (sl_args (a := a) ⟨by rw [lay_size]; simp, by rw [lay_get]; rfl⟩ rfl)
theorem ok_ground (a : AtomD) (h : Heap) (K : Value → Heap → Prop) (hk : ∀ h', Ext h h' → K (.bool a.ground) h') : Ok Tryd.prog tab ov 36 [a.val] h K := by
  rw [lay_nil h]
  have z := Ext.refl h
  unfold AtomD.val AtomD.cells
  refine Ok.into rfl tab_fn36 (bodyF N36) rfl (m := 6) rfl ?_
  simp -implicitDefEqProofs only [syms, symx, seval, c36]
  refine ok_args a _ _ (fun w h' x ha => ?_)
  ((skip); replace z := z.overW x (by (try simp only [lsz]); omega); (try replace ha := ha.over x); rw [lay_nil h'])
  simp -implicitDefEqProofs only [syms, symx, seval, c36]
  have hcn : a.args.length ≤ 1000 := by rw [args_length]; unfold AtomD.cnt; omega
  refine ok_containsTerm _ _ _ (fun t => t.v) _ (ha.lay _ _) hcn (fun t hc K' _ hK => by rw [callE_func]; exact ok_ground1 t hc K' hK) _ (fun h' x => ?_)
  ((skip); replace z := z.overW x (by (try simp only [lsz]); omega); (try replace ha := ha.over x); rw [lay_nil h'])
  simp -implicitDefEqProofs only [syms, symx, seval, c36]
  refine unop_not rfl ?_
  simp -implicitDefEqProofs only [syms, symx, seval, c36]
  exact hk _ (z.upW _ _ (by omega))
theorem ok_indexAtomF (l : List AtomD) (v fv : Value) (pr : AtomD → Bool) (h : Heap) (hl : Sl Rep.atom h v l) (hs : l.length ≤ 1000) (hpf : ∀ (x : AtomD) (hc : Heap) (K : Value → Heap → Prop), Ext h hc → (∀ h', Ext hc h' → K (.bool (pr x)) h') → callE Tryd.prog tab ov [x.val] hc K fv) (K : Value → Heap → Prop)
    (hk : ∀ h', Ext h h' → K (.int .i64 (idxP pr l)) h') : Ok Tryd.prog tab ov 51 [v, fv] h K := by
  rw [lay_nil h]
  have z := Ext.refl h
  refine Ok.into rfl tab_fn51 (bodyF N51) rfl (m := 17) rfl ?_
  simp -implicitDefEqProofs only [syms, symx, seval, c51]
  repeat' (( with_reducible_and_instances refine ln_rule hl ds23 ?_) <;> simp -implicitDefEqProofs only [syms, symx, seval, c51])
  obtain ⟨I1, hI1⟩ : ∃ I : Nat → Env → Heap → Prop, I = (fun n e h' => ∃ (i : Nat) (h1 : Heap), h' = h1.lay [] h1.low ∧ Ext h h1 ∧ (n = l.length - i ∧ i ≤ l.length ∧ ∀ x ∈ l.take i, pr x = false) ∧ ∃ J : Nat → Value, e = (v :: fv :: jr J 2 5 (.int .i64 l.length :: .int .i64 i :: jr J 9 10 ([])))) := ⟨_, rfl⟩
  refine W_loopN I1 _ (by rw [hI1]; exact ⟨0, _, rfl, z, ⟨rfl, by omega, by simp⟩, junk (by kernel_rfl)⟩) ?_
  intro n e h' hin
  rw [hI1] at hin
  obtain ⟨i, h1', rfl, z, hinv, J, rfl⟩ := hin
  obtain ⟨rfl, hi, hall⟩ := hinv
  have hw : IntKind.i64.wrap ((i : Int) + 1) = ((i + 1 : Nat) : Int) := by rw [wrap_i64 (by omega) (by omega)]; omega
  repeat' (first | simp -implicitDefEqProofs only [syms, symx, seval, c51] | ((with_reducible  apply forkD ) <;> intro _))
  rotate_left
  · rw [List.take_of_length_le (by omega)] at hall
    have := idx_none hall
    rw [this] at hk
    exact hk _ (z.upW _ _ (by omega))
  obtain ⟨r, hr, hr'⟩ := amElem (l := l) (i := i) (by assumption)
  repeat' ((first | with_reducible_and_instances refine ixa_at (hl.mono z.inc) ds23 sz36 (by omega) hr (fun p hp => ?_) | with_reducible_and_instances refine lda hp ag36 sz36 ?_) <;> simp -implicitDefEqProofs only [syms, symx, seval, c51])
  refine hpf _ _ _ (z.upW _ _ (by omega)) (fun h' x => ?_)
  ((skip); replace z := z.overW x (by (try simp only [lsz]); omega); rw [lay_nil h'])
  cases hx : pr r
  rotate_left
  · simp -implicitDefEqProofs only [syms, symx, seval, c51]
    have := idx_found hr' hall hx
    rw [this] at hk
    exact hk _ (z.upW _ _ (by omega))
  · simp -implicitDefEqProofs only [syms, symx, seval, c51]
    rw [hw]
    (rw [hI1]; with_reducible refine loopN_normal (m := _) ?_ ⟨i + 1, _, rfl, z, ⟨rfl, by omega, take_all (i := i) (P := fun x : AtomD => pr x = false) hr' hall hx⟩, junk (by kernel_rfl)⟩; omega)
theorem ok_containsAtomF (l : List AtomD) (v fv : Value) (pr : AtomD → Bool) (h : Heap) (hl : Sl Rep.atom h v l) (hs : l.length ≤ 1000) (hpf : ∀ (x : AtomD) (hc : Heap) (K : Value → Heap → Prop), Ext h hc → (∀ h', Ext hc h' → K (.bool (pr x)) h') → callE Tryd.prog tab ov [x.val] hc K fv) (K : Value → Heap → Prop)
    (hk : ∀ h', Ext h h' → K (.bool (l.any pr)) h') : Ok Tryd.prog tab ov 34 [v, fv] h K := by
  refine Ok.into rfl tab_fn34 (bodyF N34) rfl (m := 7) rfl ?_
  simp -implicitDefEqProofs only [syms, symx, seval, c34]
  refine ok_indexAtomF l v fv pr h hl hs hpf _ (fun h' x => ?_)
  simp -implicitDefEqProofs only [syms, symx, seval, c34, idx_any]
  refine forkT (fun hh => ?_) (fun hh => ?_)
  all_goals
    simp -implicitDefEqProofs only [syms, symx, seval, c34]
    rw [hh] at hk
    exact hk _ x
end Go.Proofs.YtemapihoobmonaaDoor
