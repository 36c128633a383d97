/- Walks: binding a variable, atoms under bindings, by the document. Written out by fill2.py. No condition. -/
import Derived.Test.YtompindebndddaaG41
import Derived.Test.YtompindebndddaaGOne
import Derived.Test.YtompindebndddaaG44
namespace Go.Proofs.Ytompindebndddaa
open Go.Am
set_option linter.unusedSimpArgs false
set_option linter.unusedVariables false
set_option maxRecDepth 100000
set_option maxHeartbeats 0
theorem fillT_bind (b : BindD) (z0 z1 z2 : Value) : fillA (fun i => some (i * 3, 3)) [z0, z1, z2] [(0, b.val)] = some b.cells := rfl
theorem ok_putT (l : List BindD) (v : Value) (b : BindD) (h : Heap) (hl : Sl Rep.bind h v l) (hs : l.length ≤ 1000) (K : Value → Heap → Prop)
    (hk : ∀ h' w A, Ext h h' → Ow Rep.bind h h' 192 A w (withD l b) → K w h') : Ok Try.prog tab ov 221 [v, b.val] h K := by
  rw [lay_nil h]
  have z := Ext.refl h
  have hva := vSelf v
  have hlv := fun (hh : Heap) => hl.lenA ds162 hh
  refine Ok.into rfl tab_fn221 (bodyF N221) rfl (m := 42) rfl ?_
  repeat' ( simp -implicitDefEqProofs only [syms, symx, seval, c221, cells_bind])
  refine W_fold (fun h' x hq => ?_)
  have q0 := hq 0 _ rfl
  clear hq
  (replace z := z.overW x (by (try simp only [lsz]); omega); rw [lay_nil h'])
  have hz0 := z.size
  obtain ⟨A0, hA0⟩ : ∃ A0, A0 = h.size + 0 := ⟨_, rfl⟩
  rw [← hA0] at q0
  rw [← hA0]
  have hbc : b.cells = [.string b.var, .bool b.term.v, .string b.term.s] := rfl
  obtain ⟨I1, hI1⟩ : ∃ I : Nat → Env → Heap → Prop, I = (fun n e h' => ∃ (i : Nat) (wv : Value) (A : Nat) (o : List BindD) (c : Bool) (h1 : Heap), h' = h1.lay [] h1.low ∧ Ext h h1 ∧ (n = l.length - i ∧ i ≤ l.length ∧ (c = false → o = l.take i ∧ ∀ y ∈ l.take i, slt b.var y.var = false) ∧ (c = true → o ++ l.drop i = withD l b) ∧ o.length ≤ i + 1 ∧ Ow Rep.bind h h1 192 A wv o ∧ A ≠ A0 ∧ Holds h1 A0 (.row b.cells 192 false)) ∧ ∃ J : Nat → Value, e = (v :: jr J 1 2 (.pointer (some ⟨A0, 0, none⟩) :: J 4 :: wv :: .bool c :: .int .i64 i :: jr J 8 36 ([])))) := ⟨_, rfl⟩
  refine W_loopN I1 _ (by rw [hI1]; exact ⟨0, .slice none 0 0, A0 + 1, [], false, _, rfl, z, ⟨rfl, by omega, by simp, by simp, by simp, Ow.nil (by omega), by omega, q0⟩, junk (by kernel_rfl)⟩) ?_
  intro n e h' hin
  rw [hI1] at hin
  obtain ⟨i, wv, A, o, c, h1', rfl, z, hinv, J, rfl⟩ := hin
  clear q0
  obtain ⟨rfl, hi, hno, hin, hol, ow, hAA, q0⟩ := hinv
  have hw : IntKind.i64.wrap ((i : Int) + 1) = ((i + 1 : Nat) : Int) := by rw [wrap_i64 (by omega) (by omega)]; omega
  have hvw := vSelf wv
  have hz := z.size
  simp -implicitDefEqProofs only [syms, symx, seval, c221, hva, hlv]
  refine forkD (fun hlt => ?_) (fun hlt => ?_)
  rotate_left
  · have he : i = l.length := by omega
    cases c
    · obtain ⟨ho, hall⟩ := hno rfl
      rw [List.take_of_length_le (by omega)] at ho hall
      have hend := withD_end (b := b) hall
      repeat' (first | simp -implicitDefEqProofs only [syms, symx, seval, c221, hvw, q0.lay, ↓cut_bind, agg_bind, valE_bind, Bool.not_false] | ((with_reducible_and_instances apply unop_not); (· rfl)))
      simp -implicitDefEqProofs only [syms, symx, seval, c221, w_append, sty162, fillT_bind]
      refine ap_one (i := 0) (cs := b.cells) (x := b) ds162 tab_info192 rfl (by decide) (by rfl) z.size ow rfl (by omega) (by omega) (fun w' h2 A' ow2 cg hA2 => ?_)
      have hfA := ow.fresh
      replace z := (z.upW _ _ (by omega)).step cg (by omega)
      rw [lay_nil h2]
      have hvw2 : ∀ (h : Heap) (K : Value → Heap → Prop), valE (some w') h K = K w' h := fun _ _ => rfl
      repeat' ( simp -implicitDefEqProofs only [syms, symx, seval, c221, hvw2])
      rw [ho, ← hend] at ow2
      exact hk _ _ _ (z.upW _ _ (by omega)) (ow2.mono (Inc.lay _ _ _))
    · have hin2 := hin rfl
      rw [List.drop_of_length_le (by omega), List.append_nil] at hin2
      rw [hin2] at ow
      repeat' (first | simp -implicitDefEqProofs only [syms, symx, seval, c221, hvw, Bool.not_true] | ((with_reducible_and_instances apply unop_not); (· rfl)))
      exact hk _ _ _ (z.upW _ _ (by omega)) (ow.mono (Inc.lay _ _ _))
  obtain ⟨r, hr, hr'⟩ := amElem (l := l) (i := i) (by omega)
  have htk : l.take (i + 1) = l.take i ++ [r] := by rw [List.take_add_one, hr']; rfl
  have hdr : l.drop i = r :: l.drop (i + 1) := by
    obtain ⟨hh, he⟩ := List.getElem?_eq_some_iff.1 hr'
    rw [← he]
    exact List.drop_eq_getElem_cons hh
  cases c
  · obtain ⟨ho, hall⟩ := hno rfl
    repeat' (first | simp -implicitDefEqProofs only [syms, symx, seval, c221, hva, Bool.not_false, q0.lay, hbc, bin_sgt] | with_reducible refine drawN (by simp only [c221]) (z.upW _ _ (by omega)) ?_ | with_reducible_and_instances refine ixb_at (hl.mono z.inc) ds162 sz192 (by omega) hr (fun p hp => ?_) | with_reducible_and_instances refine fdb0 hp fa192_0 (fun q hq => ?_) | with_reducible_and_instances refine ld_one hq ag9 ?_ | ((with_reducible_and_instances apply unop_not); (· rfl)))
    refine forkT (fun hs2 => ?_) (fun hs2 => ?_)
    · have hhere := withD_here hall hr' hs2
      have hfA := ow.fresh
      repeat' (first | simp -implicitDefEqProofs only [syms, symx, seval, c221, hva, q0.lay, ↓cut_bind, agg_bind, valE_bind] | ((with_reducible refine ⟨z.grw.lay _ _, ?_⟩); (intro _ h' zz x _); (try simp only [lay_lay, List.append_nil] at x); (try replace q0 := q0.over x); (try replace ow := ow.over x); (replace z := zz); (clear zz); rw [lay_nil h']))
      skip
      simp -implicitDefEqProofs only [syms, symx, seval, c221, w_append, sty162, fillT_bind]
      refine ap_one (i := 0) (cs := b.cells) (x := b) ds162 tab_info192 rfl (by decide) (by rfl) z.size ow rfl (by omega) (by omega) (fun w' h2 A' ow2 cg hA2 => ?_)
      have q0l0 := q0.lt
      have q02 := q0.stepL cg (Ne.symm hAA)
      replace z := (z.upW _ _ (by omega)).step cg (by omega)
      rw [lay_nil h2]
      have hvw2 : ∀ (h : Heap) (K : Value → Heap → Prop), valE (some w') h K = K w' h := fun _ _ => rfl
      have hz2 := z.size
      have hf2 := ow2.fresh
      have q0l := q02.lt
      clear hp hq
      repeat' (first | simp -implicitDefEqProofs only [syms, symx, seval, c221, hvw2, hva] | with_reducible_and_instances refine ixb_at (hl.mono z.inc) ds162 sz192 (by omega) hr (fun p hp => ?_) | with_reducible_and_instances refine ldb hp ag192 sz192 ?_)
      simp -implicitDefEqProofs only [syms, symx, seval, c221, w_append, sty162, fillT_bind]
      refine ap_one (i := 0) (cs := r.cells) (x := r) ds162 tab_info192 rfl (by decide) (by rfl) z.size ow2 rfl (by rw [List.length_append, List.length_singleton]; omega) (by rw [List.length_append, List.length_singleton]; omega) (fun w3 h3 A3 ow3 cg3 hA3 => ?_)
      have q03 := q02.stepL cg3 (by omega)
      replace z := (z.upW _ _ (by omega)).step cg3 (by omega)
      rw [lay_nil h3]
      have hvw3 := vSelf w3
      repeat' ( simp -implicitDefEqProofs only [syms, symx, seval, c221, hvw3])
      rw [hw]
      rw [ho] at ow3
      clear q0 ow q02 ow2 hin
      have hnew : l.take i ++ [b] ++ [r] ++ l.drop (i + 1) = withD l b := by rw [hhere, hdr]; simp
      have hf3 := ow3.fresh
      (rw [hI1]; with_reducible refine loopN_normal (m := _) ?_ ⟨i + 1, w3, A3, l.take i ++ [b] ++ [r], true, _, rfl, z, ⟨rfl, by omega, nofun, fun _ => hnew, by simp only [List.length_append, List.length_singleton, List.length_take]; omega, ow3, by omega, q03⟩, junk (by kernel_rfl)⟩; omega)
    · have hfA := ow.fresh
      clear hp hq
      repeat' (first | simp -implicitDefEqProofs only [syms, symx, seval, c221, hva] | with_reducible_and_instances refine ixb_at (hl.mono z.inc) ds162 sz192 (by omega) hr (fun p hp => ?_) | with_reducible_and_instances refine ldb hp ag192 sz192 ?_ | ((with_reducible refine ⟨z.grw.lay _ _, ?_⟩); (intro _ h' zz x _); (try simp only [lay_lay, List.append_nil] at x); (try replace q0 := q0.over x); (try replace ow := ow.over x); (replace z := zz); (clear zz); rw [lay_nil h']))
      have hz2 := z.size
      skip
      simp -implicitDefEqProofs only [syms, symx, seval, c221, w_append, sty162, fillT_bind]
      refine ap_one (i := 0) (cs := r.cells) (x := r) ds162 tab_info192 rfl (by decide) (by rfl) z.size ow rfl (by omega) (by omega) (fun w3 h3 A3 ow3 cg3 hA3 => ?_)
      have q03 := q0.stepL cg3 (Ne.symm hAA)
      have q0l := q0.lt
      replace z := (z.upW _ _ (by omega)).step cg3 (by omega)
      rw [lay_nil h3]
      have hvw3 := vSelf w3
      repeat' ( simp -implicitDefEqProofs only [syms, symx, seval, c221, hvw3])
      rw [hw]
      rw [ho, ← htk] at ow3
      clear q0 ow hin
      have hall2 : ∀ y ∈ l.take (i + 1), slt b.var y.var = false := take_all (i := i) (P := fun y : BindD => slt b.var y.var = false) hr' hall hs2
      (rw [hI1]; with_reducible refine loopN_normal (m := _) ?_ ⟨i + 1, w3, A3, l.take (i + 1), false, _, rfl, z, ⟨rfl, by omega, fun _ => ⟨rfl, hall2⟩, nofun, by rw [List.length_take]; omega, ow3, by omega, q03⟩, junk (by kernel_rfl)⟩; omega)
  · have hin2 := hin rfl
    have hfA := ow.fresh
    repeat' (first | simp -implicitDefEqProofs only [syms, symx, seval, c221, hva, Bool.not_true] | with_reducible refine drawN (by simp only [c221]) (z.upW _ _ (by omega)) ?_ | with_reducible_and_instances refine ixb_at (hl.mono z.inc) ds162 sz192 (by omega) hr (fun p hp => ?_) | with_reducible_and_instances refine ldb hp ag192 sz192 ?_ | ((with_reducible_and_instances apply unop_not); (· rfl)) | ((with_reducible refine ⟨z.grw.lay _ _, ?_⟩); (intro _ h' zz x _); (try simp only [lay_lay, List.append_nil] at x); (try replace q0 := q0.over x); (try replace ow := ow.over x); (replace z := zz); (clear zz); rw [lay_nil h']))
    have hz2 := z.size
    skip
    simp -implicitDefEqProofs only [syms, symx, seval, c221, w_append, sty162, fillT_bind]
    refine ap_one (i := 0) (cs := r.cells) (x := r) ds162 tab_info192 rfl (by decide) (by rfl) z.size ow rfl (by omega) (by omega) (fun w3 h3 A3 ow3 cg3 hA3 => ?_)
    have q03 := q0.stepL cg3 (Ne.symm hAA)
    have q0l := q0.lt
    replace z := (z.upW _ _ (by omega)).step cg3 (by omega)
    rw [lay_nil h3]
    have hvw3 := vSelf w3
    repeat' ( simp -implicitDefEqProofs only [syms, symx, seval, c221, hvw3])
    rw [hw]
    clear q0 ow hno
    have hnew : o ++ [r] ++ l.drop (i + 1) = withD l b := by rw [← hin2, hdr]; simp
    (rw [hI1]; with_reducible refine loopN_normal (m := _) ?_ ⟨i + 1, w3, A3, o ++ [r], true, _, rfl, z, ⟨rfl, by omega, nofun, fun _ => hnew, by rw [List.length_append, List.length_singleton]; omega, ow3, by omega, q03⟩, junk (by kernel_rfl)⟩; omega)
theorem sl_oneB {h : Heap} {A : Nat} {b : BindD} {u : TypeId} {ro : Bool} (q : Holds h A (.row b.cells u ro)) : Sl Rep.bind h (.slice (some ⟨A, 0, none⟩) 1 1) [b] := by
  refine .inr ⟨A, 0, 1, b.cells, u, ro, rfl, (by show 1 ≤ maxLen; decide), .inl ⟨by decide, Nat.le_refl _⟩, q.lt, q.get, fun i x hx => ?_⟩
  cases i with
  | zero =>
    simp at hx
    subst hx
    exact ⟨_, rfl, rfl⟩
  | succ i => simp at hx
theorem ok_bindT (l : List BindD) (v : Value) (s : ByteArray) (t : TermD) (h : Heap) (hl : Sl Rep.bind h v l) (hs : l.length ≤ 900) (K : Value → Heap → Prop)
    (hk : ∀ h' w e, Ext h h' → (bindD l s t = none → e ≠ 0) → (∀ m, bindD l s t = some m → e = 0 ∧ ∃ A, Ow Rep.bind h h' 192 A w m) → K (.tuple #[w, .int .i64 e]) h') : Ok Try.prog tab ov 202 [v, .string s, t.val] h K := by
  rw [lay_nil h]
  have z := Ext.refl h
  have hva := vSelf v
  have hlv := fun (hh : Heap) => hl.lenA ds162 hh
  rcases hg : subGet l s with ⟨⟨tv, ts⟩, pb⟩
  obtain ⟨x, hx⟩ : ∃ x, x = termD l t := ⟨_, rfl⟩
  rcases x with ⟨xv, xs⟩
  unfold bindD at hk
  rw [hg, ← hx] at hk
  refine Ok.into rfl tab_fn202 (bodyF N202) rfl (m := 70) rfl ?_
  repeat' ( simp -implicitDefEqProofs only [syms, symx, seval, c202, cells_term])
  refine ok_checkT l _ _ (hl.lay _ _) (by omega) _ (fun h' e x he => ?_)
  have q0 := Holds.top (i := 0) x rfl
  (( skip); replace z := z.overW x (by (try simp only [lsz]); omega); rw [lay_nil h'])
  simp -implicitDefEqProofs only [syms, symx, seval, c202]
  refine forkX ?_ ?_
  · intro hne
    repeat' ( simp -implicitDefEqProofs only [syms, symx, seval, c202])
    have hbad : ¬ ChkD l := fun hh => hne (he.2 hh)
    rw [if_pos hbad] at hk
    exact hk _ _ _ (z.upW _ _ (by omega)) (fun _ => by decide) (fun m hm => by cases hm)
  intro he0
  have hC := he.1 he0
  rw [if_neg (by simpa using hC)] at hk
  repeat' (first | simp -implicitDefEqProofs only [syms, symx, seval, c202, q0.lay, TermD.cells] | ((with_reducible  apply forkD ) <;> intro _))
  all_goals try
    (have h1 : s = ⟨#[]⟩ ∨ t.s = ⟨#[]⟩ := by first | exact .inl (by assumption) | exact .inr (by assumption) | exact .inl (Eq.symm (by assumption)) | exact .inr (Eq.symm (by assumption))
     rw [if_pos h1] at hk
     with_reducible refine hk _ _ _ (z.upW _ _ (by omega)) (fun _ => by decide) (fun m hm => by cases hm))
  have h1 : ¬ (s = ⟨#[]⟩ ∨ t.s = ⟨#[]⟩) := by rintro (e | e) <;> first | contradiction | exact absurd e.symm (by assumption)
  rw [if_neg h1] at hk
  refine ok_getT l _ s _ ((hl.mono z.inc).lay _ _) (by omega) _ (fun h' x => ?_)
  rw [hg]
  (( skip); replace z := z.overW x (by (try simp only [lsz]); omega); (try replace q0 := q0.over x); rw [lay_nil h'])
  cases pb
  rotate_left
  · repeat' ( simp -implicitDefEqProofs only [syms, symx, seval, c202, lay_set, storeO_row, List.all_cons, List.all_nil, Am.one, Bool.and_true, Bool.true_and, Bool.and_self, List.set_cons_zero, List.set_cons_succ, st4, st3, st9, st36, st39, st47, st41, st192, TermD.val, TermD.cells])
    rw [if_pos rfl] at hk
    exact hk _ _ _ (z.upW _ _ (by omega)) (fun _ => by decide) (fun m hm => by cases hm)
  rw [if_neg (by simp)] at hk
  repeat' ( simp -implicitDefEqProofs only [syms, symx, seval, c202, lay_set, storeO_row, List.all_cons, List.all_nil, Am.one, Bool.and_true, Bool.true_and, Bool.and_self, List.set_cons_zero, List.set_cons_succ, st4, st3, st9, st36, st39, st47, st41, st192, hva, q0.lay, TermD.val, TermD.cells])
  refine ok_termT l v t _ ((hl.mono z.inc).lay _ _) (by omega) _ (fun h' x => ?_)
  rw [← hx]
  (( skip); replace z := z.overW x (by (try simp only [lsz]); omega); (try replace q0 := q0.over x); rw [lay_nil h'])
  simp -implicitDefEqProofs only [syms, symx, seval, c202, lay_set, storeO_row, List.all_cons, List.all_nil, Am.one, Bool.and_true, Bool.true_and, Bool.and_self, List.set_cons_zero, List.set_cons_succ, st4, st3, st9, st36, st39, st47, st41, st192, hva, q0.lay, TermD.val, TermD.cells, bld_bind2]
  repeat' ((first | ((with_reducible  apply forkD ) <;> intro _) | with_reducible refine forkT (fun _ => ?_) (fun _ => ?_)) <;> simp -implicitDefEqProofs only [syms, symx, seval, c202, lay_set, storeO_row, List.all_cons, List.all_nil, Am.one, Bool.and_true, Bool.true_and, Bool.and_self, List.set_cons_zero, List.set_cons_succ, st4, st3, st9, st36, st39, st47, st41, st192, hva, q0.lay, TermD.val, TermD.cells, bld_bind2])
  all_goals try
    (have hown : ownD ⟨s, ⟨xv, xs⟩⟩ = true := by unfold ownD; simp [*]
     rw [if_pos hown] at hk
     with_reducible refine hk _ _ _ (z.upW _ _ (by omega)) (fun _ => by decide) (fun m hm => by cases hm))
  all_goals
    have hown : ownD ⟨s, ⟨xv, xs⟩⟩ = false := by unfold ownD; simp [*]
    rw [if_neg (by rw [hown]; decide)] at hk
    obtain ⟨A1, hA1⟩ : ∃ A, A = h'.size + 0 := ⟨_, rfl⟩
    obtain ⟨A2, hA2⟩ : ∃ A, A = h'.size + 1 := ⟨_, rfl⟩
    have hz0 := z.size
    refine W_fold (fun h' x hq => ?_)
    have q1 := hq 0 _ rfl
    have q2 := hq 1 _ rfl
    clear hq
    (replace z := z.overW x (by (try simp only [lsz]); omega); (try replace q0 := q0.over x); rw [lay_nil h'])
    rw [← hA2] at q2
    rw [← hA1, ← hA2]
    clear q0 q1
    have q2l := q2.lt
    obtain ⟨I1, hI1⟩ : ∃ I : Nat → Env → Heap → Prop, I = (fun n e h' => ∃ (i : Nat) (w : Value) (A : Nat) (h1 : Heap), h' = h1.lay [] h1.low ∧ Ext h h1 ∧ (n = l.length - i ∧ i ≤ l.length ∧ Ow Rep.bind h h1 192 A w (underD (l.take i) [⟨s, ⟨xv, xs⟩⟩]) ∧ A ≠ A2 ∧ Holds h1 A2 (.row (BindD.cells ⟨s, ⟨xv, xs⟩⟩) 192 false)) ∧ ∃ J : Nat → Value, e = (v :: jr J 1 10 (w :: .slice (some ⟨A2, 0, none⟩) 1 1 :: .int .i64 i :: jr J 14 59 ([])))) := ⟨_, rfl⟩
    refine W_loopN I1 _ (by rw [hI1]; exact ⟨0, .slice none 0 0, A2 + 1, _, rfl, z, ⟨rfl, by omega, Ow.nil (by omega), by omega, q2⟩, junk (by kernel_rfl)⟩) ?_
    intro n e h' hin
    rw [hI1] at hin
    obtain ⟨i, w, A, h1', rfl, z, hinv, J, rfl⟩ := hin
    clear q2
    obtain ⟨rfl, hi, ho, hAA, q2⟩ := hinv
    have hw : IntKind.i64.wrap ((i : Int) + 1) = ((i + 1 : Nat) : Int) := by rw [wrap_i64 (by omega) (by omega)]; omega
    have hz := z.size
    have hvw := vSelf w
    have hlen : (underD (l.take i) [⟨s, ⟨xv, xs⟩⟩]).length ≤ 900 := by unfold underD; rw [List.length_map, List.length_take]; omega
    simp -implicitDefEqProofs only [syms, symx, seval, c202, hva, hlv]
    refine forkD (fun hlt => ?_) (fun hlt => ?_)
    rotate_left
    · rw [List.take_of_length_le (by omega)] at ho
      have q2' : Holds h1' A2 (.row [.string s, .bool xv, .string xs] 192 false) := q2
      repeat' ( simp -implicitDefEqProofs only [syms, symx, seval, c202, hvw, q2'.lay])
      refine ok_putT _ w ⟨s, ⟨xv, xs⟩⟩ _ ((ho.sl (by decide)).lay _ _) (by unfold underD; rw [List.length_map]; omega) _ (fun h' w2 A2 x hw2 => ?_)
      replace hw2 := ow_down (h0 := h) hw2 (by rw [lay_size]; omega)
      (( skip); replace z := z.overW x (by (try simp only [lsz]); omega); (try replace q2 := q2.over x); (try replace ho := ho.over x); rw [lay_nil h'])
      have hvw2 := vSelf w2
      repeat' ( simp -implicitDefEqProofs only [syms, symx, seval, c202, hvw2])
      exact hk _ _ _ (z.upW _ _ (by omega)) (fun hm => by cases hm) (fun m hm => by cases hm; exact ⟨rfl, _, hw2.mono (Inc.lay _ _ _)⟩)
    obtain ⟨r, hr, hr'⟩ := amElem (l := l) (i := i) hlt
    repeat' (first | simp -implicitDefEqProofs only [syms, symx, seval, c202, hva, hvw] | with_reducible refine drawN (by simp only [c202]) (z.upW _ _ (by omega)) ?_ | with_reducible_and_instances refine ixb_at (hl.mono z.inc) ds162 sz192 (by omega) hr (fun p hp => ?_) | with_reducible_and_instances refine fdb0 hp fa192_0 (fun q hq => ?_) | with_reducible_and_instances refine fdb1 hp fa192_1 (fun p hp => ?_) | with_reducible_and_instances refine ld_one hq ag9 ?_ | with_reducible_and_instances refine ldt hp ag36 sz36 ?_)
    refine ok_termT [⟨s, ⟨xv, xs⟩⟩] _ r.term _ ((sl_oneB q2).lay _ _) (by simp) _ (fun h' x => ?_)
    (( ((with_reducible refine KOpsX_call ?_ ?_ ?_); (· exact (by (try simp only [lsz]); have := z.size; omega)); (·  exact x )) ); replace z := z.overW x (by (try simp only [lsz]); omega); (try replace q2 := q2.over x); (try replace ho := ho.over x); rw [lay_nil h'])
    simp -implicitDefEqProofs only [syms, symx, seval, c202, bld_bind, valE_bind, fill_bind]
    refine KOpsX_alloc (by have := z.size; omega) (by omega) ?_
    simp -implicitDefEqProofs only [syms, symx, seval, c202, w_append, sty162]
    have hHs : (h'.lay [Blk.row (BindD.cells ⟨r.var, termD [⟨s, ⟨xv, xs⟩⟩] r.term⟩) 192 false] (h'.size + 1)).size = h'.size + 1 := by rw [lay_size]; rfl
    have hzz := z.size
    have hfA := ho.fresh
    have q2l2 := q2.lt
    obtain ⟨hs1, hsr1⟩ := src_row (A := A) (r := Rep.bind) (c := 1) (y := ⟨r.var, termD [⟨s, ⟨xv, xs⟩⟩] r.term⟩) (by decide) (show (h'.lay [Blk.row (BindD.cells ⟨r.var, termD [⟨s, ⟨xv, xs⟩⟩] r.term⟩) 192 false] (h'.size + 1)).get (h'.size + 0) = some (.row (BindD.cells ⟨r.var, termD [⟨s, ⟨xv, xs⟩⟩] r.term⟩) 192 false) by rw [lay_get]; rfl) rfl
    obtain ⟨w', h'', A'', e1, e2, e3, e4, e5⟩ := app_ow (t := 162) ds162 tab_info192 rfl (by decide) (by rw [hHs]; omega) (ho.mono (Inc.lay _ _ _)) hs1 hsr1 (by omega) (by omega)
    rw [e1]
    simp -implicitDefEqProofs only [syms, symx, seval, c202]
    refine KOpsX_chg (A := A) (by kernel_rfl) (by rw [lay_size]; omega) (by omega) (by simpa only [lay_lay, lay_size, List.append_nil, List.length_cons, List.length_nil, Nat.zero_add] using e3) ?_
    have q3 := q2.stepL e3 (Ne.symm hAA)
    replace z := (z.upW [Blk.row (BindD.cells ⟨r.var, termD [⟨s, ⟨xv, xs⟩⟩] r.term⟩) 192 false] (h'.size + 1) (by omega)).step e3 hfA
    have htk : underD (l.take (i + 1)) [⟨s, ⟨xv, xs⟩⟩] = underD (l.take i) [⟨s, ⟨xv, xs⟩⟩] ++ [⟨r.var, termD [⟨s, ⟨xv, xs⟩⟩] r.term⟩] := by rw [List.take_add_one, hr']; unfold underD; rw [List.map_append]; rfl
    rw [← htk] at e2
    rw [hHs] at e4
    clear ho q2
    rw [lay_nil h'']
    repeat' (first | simp -implicitDefEqProofs only [syms, symx, seval, c202] | ((with_reducible refine ⟨z.grw.lay _ _, ?_⟩); (intro _ h' zz x _); (try simp only [lay_lay, List.append_nil] at x); (try replace e2 := e2.over x); (try replace q3 := q3.over x); (replace z := zz); (clear zz); rw [lay_nil h']))
    rw [hw]
    (rw [hI1]; with_reducible refine loopN_normal (m := _) ?_ ⟨i + 1, _, _, _, rfl, z, ⟨rfl, by omega, e2, by omega, q3⟩, junk (by kernel_rfl)⟩; omega)
theorem cells_len11 (a : AtomD) : a.cells.length = 11 := rfl
theorem ok_applyT (l : List BindD) (v : Value) (a : AtomD) (h : Heap) (hl : Sl Rep.bind h v l) (hs : l.length ≤ 1000) (K : Value → Heap → Prop)
    (hk : ∀ h', Ext h h' → K (applyD l a).val h') : Ok Try.prog tab ov 166 [v, a.val] h K := by
  rw [lay_nil h]
  have z := Ext.refl h
  have hva := vSelf v
  have hcn : a.cnt ≤ 4 := by unfold AtomD.cnt; omega
  refine Ok.into rfl tab_fn166 (bodyF N166) rfl (m := 20) rfl ?_
  repeat' ( simp -implicitDefEqProofs only [syms, symx, seval, c166, cells_atom])
  refine W_fold (fun h' x hq => ?_)
  have q0 := hq 0 _ rfl
  have q1 := hq 1 _ rfl
  clear hq
  (replace z := z.overW x (by (try simp only [lsz]); omega); rw [lay_nil h'])
  have hz0 := z.size
  obtain ⟨A0, hA0⟩ : ∃ A0, A0 = h.size + 0 := ⟨_, rfl⟩
  obtain ⟨A1, hA1⟩ : ∃ A1, A1 = h.size + 1 := ⟨_, rfl⟩
  rw [← hA0] at q0
  rw [← hA1] at q1
  rw [← hA0, ← hA1]
  obtain ⟨I1, hI1⟩ : ∃ I : Nat → Env → Heap → Prop, I = (fun n e h' => ∃ (i : Nat) (h1 : Heap), h' = h1.lay [] h1.low ∧ Ext h h1 ∧ (n = a.cnt - i ∧ i ≤ a.cnt ∧ Holds h1 A0 (.row (applyN l a i).cells 39 false) ∧ Holds h1 A1 (.row noAtomD.cells 39 false)) ∧ ∃ J : Nat → Value, e = (v :: jr J 1 2 (.pointer (some ⟨A0, 0, none⟩) :: .pointer (some ⟨A1, 0, none⟩) :: .int .i64 i :: jr J 6 16 ([])))) := ⟨_, rfl⟩
  refine W_loopN I1 _ (by rw [hI1]; exact ⟨0, _, rfl, z, ⟨rfl, by omega, q0, q1⟩, junk (by kernel_rfl)⟩) ?_
  intro n e h' hin
  rw [hI1] at hin
  obtain ⟨i, h1', rfl, z, hinv, J, rfl⟩ := hin
  clear q0 q1
  obtain ⟨rfl, hi, q0, q1⟩ := hinv
  have hw : IntKind.i64.wrap ((i : Int) + 1) = ((i + 1 : Nat) : Int) := by rw [wrap_i64 (by omega) (by omega)]; omega
  have hz := z.size
  simp -implicitDefEqProofs only [syms, symx, seval, c166, q0.lay, ↓cut_atom, agg_atom, valE_atom]
  refine ok_count _ _ _ (fun h' x => ?_)
  ((skip); replace z := z.overW x (by (try simp only [lsz]); omega); (try replace q0 := q0.over x); (try replace q1 := q1.over x); rw [lay_nil h'])
  rw [applyN_cnt]
  simp -implicitDefEqProofs only [syms, symx, seval, c166]
  refine forkD (fun hlt => ?_) (fun hlt => ?_)
  rotate_left
  · have he : i = a.cnt := by omega
    subst he
    rw [applyN_all] at q0
    simp -implicitDefEqProofs only [syms, symx, seval, c166, q0.lay, ↓cut_atom, agg_atom, valE_atom]
    refine store_own q1 sz39 rfl rfl rfl (fun h2' q1' c => ?_)
    replace z := (z.upW _ _ (by omega)).step c (by omega)
    rw [lay_nil h2']
    have q1'' : Holds h2' A1 (.row (applyD l a).cells 39 false) := q1'
    simp -implicitDefEqProofs only [syms, symx, seval, c166, q1''.lay, ↓cut_atom, agg_atom, valE_atom]
    exact hk _ (z.upW _ _ (by omega))
  have hi4 : (0 : Int) ≤ (i : Int) ∧ (i : Int) < 4 := by omega
  have hca := cut_arg (applyN l a i) i (by omega)
  rw [applyN_arg l a (by omega)] at hca
  repeat' ( simp -implicitDefEqProofs only [syms, symx, seval, c166, q0.lay, hva, hi4, and_self, if_true, ↓hca, agg_term, valE_term])
  refine ok_termT l v (a.arg i) _ ((hl.mono z.inc).lay _ _) hs _ (fun h' x => ?_)
  ((skip); replace z := z.overW x (by (try simp only [lsz]); omega); (try replace q0 := q0.over x); (try replace q1 := q1.over x); rw [lay_nil h'])
  repeat' ( simp -implicitDefEqProofs only [syms, symx, seval, c166, hi4, and_self, if_true, valE_term])
  refine store_part (o := 3 + i * 2) q0 sz36 (cells_term _) rfl (by rw [cells_len11]; omega) rfl (fun h2' q0' c => ?_)
  rw [applyN_set l a (by omega)] at q0'
  have q1' := q1.stepL c (by omega)
  replace z := (z.upW _ _ (by omega)).step c (by omega)
  rw [lay_nil h2']
  clear q0 q1
  repeat' ( simp -implicitDefEqProofs only [syms, symx, seval, c166])
  rw [hw]
  (rw [hI1]; with_reducible refine loopN_normal (m := _) ?_ ⟨i + 1, _, rfl, z, ⟨rfl, by omega, q0', q1'⟩, junk (by kernel_rfl)⟩; omega)
theorem ok_alikeT (a b : AtomD) (h : Heap) (K : Value → Heap → Prop)
    (hk : ∀ h', Ext h h' → K (.bool (alikeD a b)) h') : Ok Try.prog tab ov 200 [a.val, b.val] h K := by
  rw [lay_nil h]
  have z := Ext.refl h
  refine Ok.into rfl tab_fn200 (bodyF N200) rfl (m := 32) rfl ?_
  simp -implicitDefEqProofs only [syms, symx, seval, c200, AtomD.val, AtomD.cells]
  repeat' (( ((with_reducible first | apply forkD | apply forkB ) <;> intro _)) <;> simp -implicitDefEqProofs only [syms, symx, seval, c200, AtomD.val, AtomD.cells])
  all_goals first
    | (have e : alikeD a b = true := by
         unfold alikeD
         simp only [Bool.and_eq_true, decide_eq_true_eq]
         refine ⟨?_, ?_, ?_, ?_, ?_⟩ <;> first | assumption | omega
       rw [e] at hk
       exact hk _ (z.upW _ _ (by omega)))
    | (have e : alikeD a b = false := by
         cases he : alikeD a b
         · rfl
         · exfalso
           unfold alikeD at he
           simp only [Bool.and_eq_true, decide_eq_true_eq] at he
           obtain ⟨e1, e2, e3, e4, e5⟩ := he
           first | contradiction | omega
       rw [e] at hk
       exact hk _ (z.upW _ _ (by omega)))
end Go.Proofs.Ytompindebndddaa
