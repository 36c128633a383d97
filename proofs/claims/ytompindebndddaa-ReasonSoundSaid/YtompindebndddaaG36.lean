/- Walks: bindings: searching Written out by fill2.py. No condition. -/
import Derived.Test.YtompindebndddaaG35
import Derived.Test.YtompindebndddaaG25
namespace Go.Proofs.Ytompindebndddaa
open Go.Am
set_option linter.unusedSimpArgs false
set_option linter.unusedVariables false
set_option maxRecDepth 100000
set_option maxHeartbeats 0
theorem ok_search (w : Nat) (hn : w ≤ 1000) (fv : Value) (pr : Nat → Bool) (h : Heap) (hpf : ∀ (i : Nat) (hc : Heap) (K : Value → Heap → Prop), i < w → Ext h hc → (∀ h', Ext hc h' → K (.bool (pr i)) h') → callE Try.prog tab ov [.int .i64 i] hc K fv) (K : Value → Heap → Prop)
    (hk : ∀ (h' : Heap) (i : Nat), Ext h h' → i ≤ w → (0 < i → pr (i - 1) = false) → (i < w → pr i = true) → K (.int .i64 i) h') : Ok Try.prog tab ov 204 [.int .i64 w, fv] h K := by
  rw [lay_nil h]
  have z := Ext.refl h
  refine Ok.into rfl tab_fn204 (bodyF N204) rfl (m := 24) rfl ?_
  simp -implicitDefEqProofs only [syms, symx, seval, c204]
  obtain ⟨I1, hI1⟩ : ∃ I : Nat → Env → Heap → Prop, I = (fun n e h' => ∃ (lo hi : Nat) (h1 : Heap), h' = h1.lay [] h1.low ∧ Ext h h1 ∧ (n = hi - lo ∧ lo ≤ hi ∧ hi ≤ w ∧ (0 < lo → pr (lo - 1) = false) ∧ (hi < w → pr hi = true)) ∧ ∃ J : Nat → Value, e = (.int .i64 w :: fv :: jr J 2 3 (.int .i64 lo :: .int .i64 hi :: jr J 7 19 ([])))) := ⟨_, rfl⟩
  refine W_loopN I1 _ (by rw [hI1]; exact ⟨0, w, _, rfl, z, ⟨rfl, by omega, by omega, by omega, by omega⟩, junk (by kernel_rfl)⟩) ?_
  intro n e h' hin
  rw [hI1] at hin
  obtain ⟨lo, hi, h1', rfl, z, hinv, J, rfl⟩ := hin
  obtain ⟨rfl, h1, h2, h3, h4⟩ := hinv
  simp -implicitDefEqProofs only [syms, symx, seval, c204]
  refine forkD (fun hlt => ?_) (fun hlt => ?_)
  rotate_left
  · simp -implicitDefEqProofs only [syms, symx, seval, c204]
    obtain rfl : lo = hi := by omega
    exact hk _ lo (z.upW _ _ (by omega)) h2 h3 h4
  have e1 : IntKind.i64.wrap ((lo : Int) + (hi : Int)) = ((lo + hi : Nat) : Int) := by rw [wrap_i64 (by omega) (by omega)]; omega
  have e2 : IntKind.u64.wrap ((lo + hi : Nat) : Int) = ((lo + hi : Nat) : Int) := by unfold IntKind.wrap; simp [IntKind.bits]; omega
  have e3 : IntKind.i64.wrap (((lo + hi) / 2 : Nat) : Int) = (((lo + hi) / 2 : Nat) : Int) := wrap_i64 (by omega) (by omega)
  have e4 : Int.fdiv ((lo + hi : Nat) : Int) (2 ^ (min (1 : Int).toNat (IntKind.bits .u64))) = (((lo + hi) / 2 : Nat) : Int) := by
    show Int.fdiv ((lo + hi : Nat) : Int) 2 = _
    rw [Int.fdiv_eq_ediv_of_nonneg _ (by omega)]
    omega
  repeat' ( simp -implicitDefEqProofs only [syms, symx, seval, c204, e1])
  rw [w_conv rfl rfl rfl (pure_iu _) rfl, e2]
  repeat' ( simp -implicitDefEqProofs only [syms, symx, seval, c204, e1])
  rw [bin_shr (by decide), e4]
  repeat' ( simp -implicitDefEqProofs only [syms, symx, seval, c204, e1])
  rw [w_conv rfl rfl rfl (pure_ui _) rfl, e3]
  repeat' ( simp -implicitDefEqProofs only [syms, symx, seval, c204, e1])
  refine hpf ((lo + hi) / 2) _ _ (by omega) (z.upW _ _ (by omega)) (fun h' x => ?_)
  ((skip); replace z := z.overW x (by (try simp only [lsz]); omega); rw [lay_nil h'])
  have e5 : IntKind.i64.wrap ((((lo + hi) / 2 : Nat) : Int) + 1) = (((lo + hi) / 2 + 1 : Nat) : Int) := by rw [wrap_i64 (by omega) (by omega)]; omega
  cases hx : pr ((lo + hi) / 2)
  · repeat' (first | simp -implicitDefEqProofs only [syms, symx, seval, c204] | ((with_reducible_and_instances apply unop_not); (· rfl)))
    rw [e5]
    (rw [hI1]; with_reducible refine loopN_normal (m := _) ?_ ⟨(lo + hi) / 2 + 1, hi, _, rfl, z, ⟨rfl, by omega, by omega, by intro _; simpa using hx, h4⟩, junk (by kernel_rfl)⟩; omega)
  · repeat' (first | simp -implicitDefEqProofs only [syms, symx, seval, c204] | ((with_reducible_and_instances apply unop_not); (· rfl)))
    (rw [hI1]; with_reducible refine loopN_normal (m := _) ?_ ⟨lo, (lo + hi) / 2, _, rfl, z, ⟨rfl, by omega, by omega, h3, by intro _; exact hx⟩, junk (by kernel_rfl)⟩; omega)
theorem bin_sge {P : Program} {T : Tab} {t : TypeId} {a b : ByteArray} : binA P T .geq t (.string a) (.string b) = some (.bool (!slt a b)) := by
  refine bin_str rfl ?_ rfl
  unfold Op.stringOp
  simp only [toList_data]
  rfl
theorem ok_rises (l : List BindD) (v : Value) (h : Heap) (hl : Sl Rep.bind h v l) (hs : l.length ≤ 1000) (K : Value → Heap → Prop)
    (hk : ∀ (h' : Heap) (b : Bool), Ext h h' → (b = true ↔ Rising l l.length) → K (.bool b) h') : Ok Try.prog tab ov 203 [v] h K := by
  rw [lay_nil h]
  have z := Ext.refl h
  refine Ok.into rfl tab_fn203 (bodyF N203) rfl (m := 25) rfl ?_
  simp -implicitDefEqProofs only [syms, symx, seval, c203]
  repeat' (( with_reducible_and_instances refine ln_rule hl ds162 ?_) <;> simp -implicitDefEqProofs only [syms, symx, seval, c203])
  obtain ⟨I1, hI1⟩ : ∃ I : Nat → Env → Heap → Prop, I = (fun n e h' => ∃ (i : Nat) (h1 : Heap), h' = h1.lay [] h1.low ∧ Ext h h1 ∧ (n = l.length - i ∧ i ≤ l.length ∧ Rising l i) ∧ ∃ J : Nat → Value, e = (v :: jr J 1 4 (.int .i64 l.length :: .int .i64 i :: jr J 7 19 ([])))) := ⟨_, rfl⟩
  refine W_loopN I1 _ (by rw [hI1]; exact ⟨0, _, rfl, z, ⟨rfl, by omega, by intro k x y hk; omega⟩, junk (by kernel_rfl)⟩) ?_
  intro n e h' hin
  rw [hI1] at hin
  obtain ⟨i, h1', rfl, z, hinv, J, rfl⟩ := hin
  obtain ⟨rfl, hi, hall⟩ := hinv
  have hw : IntKind.i64.wrap ((i : Int) + 1) = ((i + 1 : Nat) : Int) := by rw [wrap_i64 (by omega) (by omega)]; omega
  have hw2 : IntKind.i64.wrap ((i : Int) - 1) = (i : Int) - 1 := wrap_i64 (by omega) (by omega)
  simp -implicitDefEqProofs only [syms, symx, seval, c203]
  refine forkD (fun hlt => ?_) (fun hlt => ?_)
  rotate_left
  · simp -implicitDefEqProofs only [syms, symx, seval, c203]
    obtain rfl : i = l.length := by omega
    exact hk _ true (z.upW _ _ (by omega)) ⟨fun _ => hall, fun _ => rfl⟩
  repeat' (first | simp -implicitDefEqProofs only [syms, symx, seval, c203] | ((with_reducible  apply forkD ) <;> intro _) | with_reducible refine drawN (by simp only [c203]) (z.upW _ _ (by omega)) ?_ | ((with_reducible refine ⟨z.grw.lay _ _, ?_⟩); (intro _ h' zz x _); (try simp only [lay_lay, List.append_nil] at x); (replace z := zz); (clear zz); rw [lay_nil h']))
  rotate_left
  · rw [hw]
    (rw [hI1]; with_reducible refine loopN_normal (m := _) ?_ ⟨i + 1, _, rfl, z, ⟨rfl, by omega, rising_one (by omega)⟩, junk (by kernel_rfl)⟩; omega)
  have hw3 : IntKind.i64.wrap ((i : Int) - 1) = ((i - 1 : Nat) : Int) := by rw [hw2]; omega
  rw [hw3]
  obtain ⟨r0, hr0, hr0'⟩ := amElem (l := l) (i := i - 1) (by omega)
  obtain ⟨r1, hr1, hr1'⟩ := amElem (l := l) (i := i) (by omega)
  repeat' ((first | ((with_reducible  apply forkNot) <;> intro _) | with_reducible_and_instances refine ixb_at (hl.mono z.inc) ds162 sz192 (by omega) hr0 (fun p hp => ?_) | with_reducible_and_instances refine ixb_at (hl.mono z.inc) ds162 sz192 (by omega) hr1 (fun p hp => ?_) | with_reducible_and_instances refine fdb0 hp fa192_0 (fun q hq => ?_) | with_reducible_and_instances refine ld_one hq ag9 ?_ | ((with_reducible refine ⟨z.grw.lay _ _, ?_⟩); (intro _ h' zz x _); (try simp only [lay_lay, List.append_nil] at x); (replace z := zz); (clear zz); rw [lay_nil h'])) <;> simp -implicitDefEqProofs only [syms, symx, seval, c203, bin_sge])
  rotate_left
  · rw [hw]
    (rw [hI1]; with_reducible refine loopN_normal (m := _) ?_ ⟨i + 1, _, rfl, z, ⟨rfl, by omega, rising_next hall (by omega) hr0' hr1' (by assumption)⟩, junk (by kernel_rfl)⟩; omega)
  · refine hk _ false (z.upW _ _ (by omega)) ⟨nofun, fun hR => absurd hR (rising_not (by omega) hr0' hr1' (by simp [*]))⟩
theorem ok_get1 (l : List BindD) (v : Value) (s : ByteArray) (i : Nat) (A B : Nat) (h : Heap) (hl : Sl Rep.bind h v l) (hs : l.length ≤ 1000) (hi : i < l.length) (q0 : Holds h A (.row [v] 162 false)) (q1 : Holds h B (.row [.string s] 9 false)) (K : Value → Heap → Prop)
    (hk : ∀ h', Ext h h' → K (.bool (match l[i]? with | some x => !slt x.var s | none => false)) h') : Ok Try.prog tab ov 205 [.int .i64 i, .pointer (some ⟨A, 0, none⟩), .pointer (some ⟨B, 0, none⟩)] h K := by
  rw [lay_nil h]
  have z := Ext.refl h
  obtain ⟨r, hr, hr'⟩ := amElem (l := l) (i := i) (by omega)
  rw [hr'] at hk
  refine Ok.into rfl tab_fn205 (bodyF N205) rfl (m := 9) rfl ?_
  simp -implicitDefEqProofs only [syms, symx, seval, c205]
  repeat' ((first | with_reducible_and_instances refine ixb_at (hl.mono z.inc) ds162 sz192 (by omega) hr (fun p hp => ?_) | with_reducible_and_instances refine fdb0 hp fa192_0 (fun q hq => ?_) | with_reducible_and_instances refine ld_one hq ag9 ?_ | with_reducible refine drawN (by simp only [c205]) (z.upW _ _ (by omega)) ?_ | ((with_reducible refine ⟨z.grw.lay _ _, ?_⟩); (intro _ h' zz x _); (try simp only [lay_lay, List.append_nil] at x); (replace z := zz); (clear zz); rw [lay_nil h'])) <;> simp -implicitDefEqProofs only [syms, symx, seval, c205, q0.lay, q1.lay, bin_sge, valE_any])
  exact hk _ (z.upW _ _ (by omega))
theorem bld_noterm : buildA tab 36 [] = some noTermD.val := by kernel_rfl
theorem cut_term (a : TermD) : cut a.cells 0 2 = some a.cells := rfl
theorem agg_term (a : TermD) : Value.agg a.cells.toArray = a.val := rfl
theorem ok_get (l : List BindD) (v : Value) (s : ByteArray) (h : Heap) (hl : Sl Rep.bind h v l) (hs : l.length ≤ 1000) (K : Value → Heap → Prop)
    (hk : ∀ h', Ext h h' → K (.tuple #[(subGet l s).1.val, .bool (subGet l s).2]) h') : Ok Try.prog tab ov 171 [v, .string s] h K := by
  rw [lay_nil h]
  have z := Ext.refl h
  refine Ok.into rfl tab_fn171 (bodyF N171) rfl (m := 30) rfl ?_
  have hc : v.cells.toList = [v] := sl_cells hl
  have hva := vSelf v
  repeat' ( simp -implicitDefEqProofs only [syms, symx, seval, c171, hc, hva])
  refine ok_rises l _ _ (hl.lay _ _) hs _ (fun h' b x hb => ?_)
  have q0 := Holds.top (i := 0) x rfl
  have q1 := Holds.top (i := 1) x rfl
  have q2 := Holds.top (i := 2) x rfl
  (( skip); replace z := z.overW x (by (try simp only [lsz]); omega); rw [lay_nil h'])
  cases b
  rotate_left
  focus
    simp -implicitDefEqProofs only [syms, symx, seval, c171, q0.lay, q1.lay, hc, hva]
    repeat' (( with_reducible_and_instances refine ln_rule (hl.mono z.inc) ds162 ?_) <;> simp -implicitDefEqProofs only [syms, symx, seval, c171, q0.lay, q1.lay, hc, hva])
    refine ok_search l.length hs _ (fun i => match l[i]? with | some x => !slt x.var s | none => false) _ (fun i hc' K' hi xe hk' => ?_) _ (fun h2' i x hi hlo hhi => ?_)
    · rw [callE_clos]
      have xe' := z.overW xe (by (try simp only [lay_size, List.length_cons, List.length_nil]); omega)
      exact ok_get1 l v s i _ _ hc' (hl.mono xe'.inc) hs hi (q0.over xe) (q1.over xe) K' hk'
    have q0 := q0.over x
    have q1 := q1.over x
    have q2 := q2.over x
    (replace z := z.overW x (by (try simp only [lay_size, List.length_cons, List.length_nil]); omega); rw [lay_nil h2'])
    have hlow := search_low (hb.1 rfl) hi hlo
    clear hlo hhi
    simp -implicitDefEqProofs only [syms, symx, seval, c171]
  rotate_left
  focus
    simp -implicitDefEqProofs only [syms, symx, seval, c171]
    have hi : 0 ≤ l.length := Nat.zero_le _
    have hlow : ∀ y ∈ l.take 0, y.var ≠ s := by simp
  all_goals
    obtain ⟨I1, hI1⟩ : ∃ I : Nat → Env → Heap → Prop, I = (fun n e h' => ∃ (i : Nat) (h1 : Heap), h' = h1.lay [] h1.low ∧ Ext h h1 ∧ (n = l.length - i ∧ i ≤ l.length ∧ (∀ y ∈ l.take i, y.var ≠ s) ∧ Holds h1 (h.size + 0) (.row [v] 162 false) ∧ Holds h1 (h.size + 1) (.row [.string s] 9 false) ∧ Holds h1 (h.size + 2) (.row [.bool false, .string ⟨#[]⟩] 36 false)) ∧ ∃ J : Nat → Value, e = (jr J 0 2 (.pointer (some ⟨h.size + 0, 0, none⟩) :: .pointer (some ⟨h.size + 1, 0, none⟩) :: .pointer (some ⟨h.size + 2, 0, none⟩) :: .bool false :: .int .i64 i :: jr J 7 25 ([])))) := ⟨_, rfl⟩
    refine W_loopN I1 _ (by rw [hI1]; exact ⟨_, _, rfl, z, ⟨rfl, hi, hlow, q0, q1, q2⟩, junk (by kernel_rfl)⟩) ?_
    intro n e h' hin
    rw [hI1] at hin
    obtain ⟨i, h3', rfl, z, hinv, J, rfl⟩ := hin
    clear hi hlow q0 q1 q2
    obtain ⟨rfl, hi, hlow, q0, q1, q2⟩ := hinv
    have hw : i < l.length → IntKind.i64.wrap ((i : Int) + 1) = ((i + 1 : Nat) : Int) := fun _ => by rw [wrap_i64 (by omega) (by omega)]; omega
    have hz := z.size
    simp -implicitDefEqProofs only [syms, symx, seval, c171, q0.lay, hva]
    repeat' ((first | ((with_reducible  apply forkD ) <;> intro _) | with_reducible_and_instances refine ln_rule (hl.mono z.inc) ds162 ?_) <;> simp -implicitDefEqProofs only [syms, symx, seval, c171, q0.lay, hva])
    rotate_left
    · simp -implicitDefEqProofs only [syms, symx, seval, c171, bld_noterm, valE_term]
      refine store_own q2 sz36 rfl rfl rfl (fun h' q2' c => ?_)
      replace z := (z.upW _ _ (by omega)).step c (by omega)
      rw [lay_nil h']
      simp -implicitDefEqProofs only [syms, symx, seval, c171, q2'.lay, cells_term, ↓cut_term, agg_term, valE_term]
      have hno := subGet_no (l := l) (s := s) (fun y hy => hlow y (by rw [List.take_of_length_le (by omega)]; exact hy))
      rw [hno] at hk
      exact hk _ (z.upW _ _ (by omega))
    obtain ⟨r, hr, hr'⟩ := amElem (l := l) (i := i) (by assumption)
    repeat' ((first | ((with_reducible  apply forkD ) <;> intro _) | with_reducible_and_instances refine ixb_at (hl.mono z.inc) ds162 sz192 (by omega) hr (fun p hp => ?_) | with_reducible_and_instances refine fdb0 hp fa192_0 (fun q hq => ?_) | with_reducible_and_instances refine fdb1 hp fa192_1 (fun p hp => ?_) | with_reducible_and_instances refine ld_one hq ag9 ?_ | with_reducible_and_instances refine ldt hp ag36 sz36 ?_ | with_reducible refine drawN (by simp only [c171]) (z.upW _ _ (by omega)) ?_ | ((with_reducible refine ⟨z.grw.lay _ _, ?_⟩); (intro _ h' zz x _); (try simp only [lay_lay, List.append_nil] at x); (try replace q0 := q0.over x); (try replace q1 := q1.over x); (try replace q2 := q2.over x); (replace z := zz); (clear zz); rw [lay_nil h'])) <;> simp -implicitDefEqProofs only [syms, symx, seval, c171, q0.lay, q1.lay, hva])
    · have hz := z.size
      refine store_own q2 sz36 rfl rfl rfl (fun h' q2' c => ?_)
      replace z := (z.upW _ _ (by omega)).step c (by omega)
      rw [lay_nil h']
      simp -implicitDefEqProofs only [syms, symx, seval, c171, q2'.lay, cells_term, ↓cut_term, agg_term, valE_term]
      have hat := subGet_at hr' hlow (by assumption)
      rw [hat] at hk
      exact hk _ (z.upW _ _ (by omega))
    · rw [hw (by omega)]
      (rw [hI1]; with_reducible refine loopN_normal (m := _) ?_ ⟨i + 1, _, rfl, z, ⟨rfl, by omega, take_all (i := i) (P := fun y : BindD => y.var ≠ s) hr' hlow (by assumption), q0, q1, q2⟩, junk (by kernel_rfl)⟩; omega)
theorem loop_heap {I : Nat → Env → Heap → Prop} {m : Nat} {Q : Ex → Env → Heap → Prop} {x : Ex} {e : Env} {h0 h1 : Heap} {bs : List Blk} {w : Nat} (z : Ext h0 (h1.lay bs w)) (hk : ∀ H, Ext h0 H → loopN I m Q x e (H.lay [] H.low)) : loopN I m Q x e (h1.lay bs w) := by
  have := hk _ z
  rwa [← lay_nil] at this
theorem ok_check (l : List BindD) (v : Value) (h : Heap) (hl : Sl Rep.bind h v l) (hs : l.length ≤ 1000) (K : Value → Heap → Prop)
    (hk : ∀ h' e, Ext h h' → (e = 0 ↔ ChkD l) → K (.int .i64 e) h') : Ok Try.prog tab ov 169 [v] h K := by
  rw [lay_nil h]
  have z := Ext.refl h
  refine Ok.into rfl tab_fn169 (bodyF N169) rfl (m := 36) rfl ?_
  repeat' ( simp -implicitDefEqProofs only [syms, symx, seval, c169])
  refine ok_rises l _ _ (hl.lay _ _) hs _ (fun h' b x hb => ?_)
  ((skip); replace z := z.overW x (by (try simp only [lsz]); omega); rw [lay_nil h'])
  cases b
  · repeat' (first | simp -implicitDefEqProofs only [syms, symx, seval, c169] | ((with_reducible_and_instances apply unop_not); (· rfl)))
    refine hk _ _ ?_ ?_
    · exact z.upW _ _ (by omega)
    · exact ⟨fun hh => absurd hh (by decide), fun hh => absurd (hb.2 hh.1) (by simp)⟩
  have hR := hb.1 rfl
  simp -implicitDefEqProofs only [syms, symx, seval, c169]
  repeat' ((first | with_reducible_and_instances refine ln_rule (hl.mono z.inc) ds162 ?_ | ((with_reducible_and_instances apply unop_not); (· rfl))) <;> simp -implicitDefEqProofs only [syms, symx, seval, c169])
  obtain ⟨I1, hI1⟩ : ∃ I : Nat → Env → Heap → Prop, I = (fun n e h' => ∃ (i : Nat) (h1 : Heap), h' = h1.lay [] h1.low ∧ Ext h h1 ∧ (n = l.length - i ∧ i ≤ l.length ∧ ∀ b ∈ l.take i, b.term.s ≠ ⟨#[]⟩ ∧ ¬ (b.term.v = true ∧ (subGet l b.term.s).2 = true)) ∧ ∃ J : Nat → Value, e = (v :: jr J 1 9 (v :: .int .i64 l.length :: .int .i64 i :: jr J 13 24 ([])))) := ⟨_, rfl⟩
  refine W_loopN I1 _ (by rw [hI1]; exact ⟨0, _, rfl, z, ⟨rfl, by omega, by simp⟩, junk (by kernel_rfl)⟩) ?_
  intro n e h' hin
  rw [hI1] at hin
  obtain ⟨i, h1', rfl, z, hinv, J, rfl⟩ := hin
  obtain ⟨rfl, hi, hall⟩ := hinv
  have hw : IntKind.i64.wrap ((i : Int) + 1) = ((i + 1 : Nat) : Int) := by rw [wrap_i64 (by omega) (by omega)]; omega
  simp -implicitDefEqProofs only [syms, symx, seval, c169]
  refine forkD (fun hlt => ?_) (fun hlt => ?_)
  rotate_left
  · simp -implicitDefEqProofs only [syms, symx, seval, c169]
    rw [List.take_of_length_le (by omega)] at hall
    exact hk _ _ (z.upW _ _ (by omega)) ⟨fun _ => ⟨hR, hall⟩, fun _ => rfl⟩
  obtain ⟨r, hr, hr'⟩ := amElem (l := l) (i := i) hlt
  have hmem := List.mem_of_getElem? hr'
  rcases hg : subGet l r.term.s with ⟨⟨tv, ts⟩, pb⟩
  simp -implicitDefEqProofs only [syms, symx, seval, c169]
  repeat' ((first | with_reducible_and_instances refine ixb_at (hl.mono z.inc) ds162 sz192 (by omega) hr (fun p hp => ?_) | with_reducible_and_instances refine ldb hp ag192 sz192 ?_) <;> simp -implicitDefEqProofs only [syms, symx, seval, c169, lay_set, storeO_row, List.all_cons, List.all_nil, Am.one, Bool.and_true, Bool.true_and, Bool.and_self, List.set_cons_zero, List.set_cons_succ, st4, st3, st9, st36, st39, st47, st41, st192, BindD.val, BindD.cells])
  refine ok_get l _ r.term.s _ (hl.mono (z.upW _ _ (by omega)).inc) hs _ (fun h' x => ?_)
  rw [hg]
  have q0 := Holds.top (i := 0) x rfl
  ((skip); replace z := z.overW x (by (try simp only [lsz]); omega); rw [lay_nil h'])
  simp -implicitDefEqProofs only [syms, symx, seval, c169, q0.lay, TermD.val, TermD.cells]
  repeat' ((first | ((with_reducible  apply forkD ) <;> intro _) | with_reducible refine forkT (fun _ => ?_) (fun _ => ?_)) <;> simp -implicitDefEqProofs only [syms, symx, seval, c169, lay_set, storeO_row, List.all_cons, List.all_nil, Am.one, Bool.and_true, Bool.true_and, Bool.and_self, List.set_cons_zero, List.set_cons_succ, st4, st3, st9, st36, st39, st47, st41, st192, q0.lay, TermD.val, TermD.cells])
  all_goals first
    | ((with_reducible refine hk _ _ ?_ ?_); (· exact z.upW _ _ (by omega)); (· refine ⟨fun hh => absurd hh (by decide), fun hh => ?_⟩; have hbad := hh.2 r hmem; rw [hg] at hbad; clear hI1; exfalso; simp_all))
    | (rw [hw]; (refine loop_heap (z.upW _ _ (by omega)) (fun H z => ?_)); (rw [hI1]; with_reducible refine loopN_normal (m := _) ?_ ⟨i + 1, _, rfl, z, ⟨rfl, by omega, take_all (i := i) (P := fun b : BindD => b.term.s ≠ ⟨#[]⟩ ∧ ¬ (b.term.v = true ∧ (subGet l b.term.s).2 = true)) hr' hall (by rw [hg]; simp_all)⟩, junk (by kernel_rfl)⟩; omega))
theorem ok_term (l : List BindD) (v : Value) (t : TermD) (h : Heap) (hl : Sl Rep.bind h v l) (hs : l.length ≤ 1000) (K : Value → Heap → Prop)
    (hk : ∀ h', Ext h h' → K (termD l t).val h') : Ok Try.prog tab ov 206 [v, t.val] h K := by
  rw [lay_nil h]
  have z := Ext.refl h
  rcases hg : subGet l t.s with ⟨⟨tv, ts⟩, pb⟩
  unfold termD at hk
  rw [hg] at hk
  refine Ok.into rfl tab_fn206 (bodyF N206) rfl (m := 19) rfl ?_
  simp -implicitDefEqProofs only [syms, symx, seval, c206, TermD.val, TermD.cells]
  repeat' ((first | ((with_reducible first | apply forkD | apply forkB | apply forkN | apply forkNP | apply forkNot) <;> intro _)) <;> simp -implicitDefEqProofs only [syms, symx, seval, c206, lay_set, storeO_row, List.all_cons, List.all_nil, Am.one, Bool.and_true, Bool.true_and, Bool.and_self, List.set_cons_zero, List.set_cons_succ, st4, st3, st9, st36, st39, st47, st41, st192, TermD.val, TermD.cells])
  refine ok_get l _ t.s _ (hl.lay _ _) hs _ (fun h' x => ?_)
  rw [hg]
  have q0 := Holds.top (i := 0) x rfl
  have q1 := Holds.top (i := 1) x rfl
  ((skip); replace z := z.overW x (by (try simp only [lsz]); omega); rw [lay_nil h'])
  have hz := z.size
  simp -implicitDefEqProofs only [syms, symx, seval, c206, q0.lay, TermD.val, TermD.cells]
  repeat' (( with_reducible refine forkT (fun _ => ?_) (fun _ => ?_)) <;> simp -implicitDefEqProofs only [syms, symx, seval, c206, lay_set, storeO_row, List.all_cons, List.all_nil, Am.one, Bool.and_true, Bool.true_and, Bool.and_self, List.set_cons_zero, List.set_cons_succ, st4, st3, st9, st36, st39, st47, st41, st192, q0.lay, TermD.val, TermD.cells])
  all_goals
    refine store_own q1 sz36 rfl rfl rfl (fun h2' q1' c => ?_)
    replace z := (z.upW _ _ (by omega)).step c (by omega)
    rw [lay_nil h2']
    simp -implicitDefEqProofs only [syms, symx, seval, c206, q1'.lay]
    simp only [*, and_self, and_false, false_and, Bool.false_eq_true, if_true, if_false] at hk
    exact hk _ (z.upW _ _ (by omega))
theorem ok_ownB (b : BindD) (h : Heap) (K : Value → Heap → Prop)
    (hk : ∀ h', Ext h h' → K (.bool (ownD b)) h') : Ok Try.prog tab ov 207 [b.val] h K := by
  rw [lay_nil h]
  have z := Ext.refl h
  unfold ownD at hk
  refine Ok.into rfl tab_fn207 (bodyF N207) rfl (m := 13) rfl ?_
  simp -implicitDefEqProofs only [syms, symx, seval, c207, BindD.val, BindD.cells]
  repeat' ((first | ((with_reducible  apply forkD ) <;> intro _) | with_reducible refine forkT (fun _ => ?_) (fun _ => ?_)) <;> simp -implicitDefEqProofs only [syms, symx, seval, c207, BindD.val, BindD.cells])
  all_goals
    simp only [*, decide_true, decide_false, Bool.and_self, Bool.and_false, Bool.false_and] at hk
    exact hk _ (z.upW _ _ (by omega))
theorem bin_sgt {P : Program} {T : Tab} {t : TypeId} {a b : ByteArray} : binA P T .gtr t (.string a) (.string b) = some (.bool (slt b a)) := by
  refine bin_str rfl ?_ rfl
  have e : slt b a = !(slt a b || (a.toList == b.toList)) := by
    rw [toList_data, toList_data, ba_beq]
    cases h1 : slt a b
    · cases h2 : slt b a
      · have := slt_total h1 h2
        simp [this]
      · have : a ≠ b := fun hh => by subst hh; rw [slt_irrefl] at h2; cases h2
        simp [this]
    · cases h2 : slt b a
      · rfl
      · have := slt_trans h1 h2
        rw [slt_irrefl] at this
        cases this
  rw [e]
  unfold Op.stringOp slt
  simp only [toList_data]
  rfl
theorem ok_with1 (l : List BindD) (v : Value) (b : BindD) (i : Nat) (A B : Nat) (h : Heap) (hl : Sl Rep.bind h v l) (hs : l.length ≤ 1000) (hi : i < l.length) (q0 : Holds h A (.row [v] 162 false)) (q1 : Holds h B (.row b.cells 192 false)) (K : Value → Heap → Prop)
    (hk : ∀ h', Ext h h' → K (.bool (match l[i]? with | some x => slt b.var x.var | none => false)) h') : Ok Try.prog tab ov 222 [.int .i64 i, .pointer (some ⟨A, 0, none⟩), .pointer (some ⟨B, 0, none⟩)] h K := by
  rw [lay_nil h]
  have z := Ext.refl h
  obtain ⟨r, hr, hr'⟩ := amElem (l := l) (i := i) (by omega)
  rw [hr'] at hk
  unfold BindD.cells at q1
  refine Ok.into rfl tab_fn222 (bodyF N222) rfl (m := 10) rfl ?_
  simp -implicitDefEqProofs only [syms, symx, seval, c222]
  repeat' ((first | with_reducible_and_instances refine ixb_at (hl.mono z.inc) ds162 sz192 (by omega) hr (fun p hp => ?_) | with_reducible_and_instances refine fdb0 hp fa192_0 (fun q hq => ?_) | with_reducible_and_instances refine ld_one hq ag9 ?_ | with_reducible refine drawN (by simp only [c222]) (z.upW _ _ (by omega)) ?_ | ((with_reducible refine ⟨z.grw.lay _ _, ?_⟩); (intro _ h' zz x _); (try simp only [lay_lay, List.append_nil] at x); (replace z := zz); (clear zz); rw [lay_nil h'])) <;> simp -implicitDefEqProofs only [syms, symx, seval, c222, q0.lay, q1.lay, bin_sgt, valE_any])
  exact hk _ (z.upW _ _ (by omega))
theorem bs1_bind (b : BindD) (h : Heap) : buildSliceA tab 162 1 [(0, b.val)] h = some (.slice (some ⟨h.size, 0, none⟩) 1 1, h.push (.row b.cells 192 false)) := by kernel_rfl
theorem cut_bind (b : BindD) : cut b.cells 0 3 = some b.cells := rfl
theorem agg_bind (b : BindD) : Value.agg b.cells.toArray = b.val := rfl
theorem cells_bind (b : BindD) : b.val.cells.toList = b.cells := rfl
theorem valE_bind (b : BindD) (h : Heap) (K : Value → Heap → Prop) : valE (some b.val) h K = K b.val h := rfl
theorem sty162 : srcTyA tab 162 162 = true := by kernel_rfl
theorem fill_bind (b : BindD) (z0 z1 z2 : Value) : fillA (fun i => some (i * 3, 3)) [z0, z1, z2] [(0, b.val)] = some b.cells := rfl
theorem ok_with (l : List BindD) (v : Value) (b : BindD) (h : Heap) (hl : Sl Rep.bind h v l) (hs : l.length ≤ 1000) (hR : Rising l l.length) (K : Value → Heap → Prop)
    (hk : ∀ h' w, Ext h h' → Sl Rep.bind h' w (withD l b) → K w h') : Ok Try.prog tab ov 208 [v, b.val] h K := by
  rw [lay_nil h]
  have z := Ext.refl h
  have hc : v.cells.toList = [v] := sl_cells hl
  have hva := vSelf v
  refine Ok.into rfl tab_fn208 (bodyF N208) rfl (m := 19) rfl ?_
  simp -implicitDefEqProofs only [syms, symx, seval, c208, hc, hva, cells_bind]
  repeat' (( with_reducible_and_instances refine ln_rule (hl.mono z.inc) ds162 ?_) <;> simp -implicitDefEqProofs only [syms, symx, seval, c208, hc, hva])
  refine ok_search l.length hs _ (fun i => match l[i]? with | some x => slt b.var x.var | none => false) _ (fun i hc' K' hi xe hk' => ?_) _ (fun h2' i x hi hlo hhi => ?_)
  · rw [callE_clos]
    have xe' := z.overW xe (by (try simp only [lay_size, List.length_cons, List.length_nil]); omega)
    exact ok_with1 l v b i _ _ hc' (hl.mono xe'.inc) hs hi (Holds.top (i := 0) xe rfl) (Holds.top (i := 1) xe rfl) K' hk'
  have q0 := Holds.top (i := 0) x rfl
  have q1 := Holds.top (i := 1) x rfl
  (replace z := z.overW x (by (try simp only [lay_size, List.length_cons, List.length_nil]); omega); rw [lay_nil h2'])
  have hw := withD_at (b := b) hR hi hlo hhi
  rw [hw] at hk
  clear hlo hhi
  simp -implicitDefEqProofs only [syms, symx, seval, c208]
  refine (drawN (by simp only [c208])) (z.upW _ _ (by omega)) ?_
  simp -implicitDefEqProofs only [syms, symx, seval, c208, q0.lay, hva]
  repeat' (( with_reducible_and_instances refine full_rule (hl.mono z.inc) ds162 sz192 (by omega) (fun base hb => ?_)) <;> simp -implicitDefEqProofs only [syms, symx, seval, c208, q0.lay, q1.lay, hva, ↓cut_bind, agg_bind, valE_bind, bs1_bind])
  simp -implicitDefEqProofs only [syms, symx, seval, c208, fill_bind]
  refine KOpsX_alloc (by have := z.size; omega) (by omega) ?_
  simp -implicitDefEqProofs only [syms, symx, seval, c208, w_append, sty162]
  have hz := z.size
  have hlen : (l.take i).length = i := by rw [List.length_take]; omega
  have hb' : Sl Rep.bind (h2'.lay [Blk.row b.cells 192 false] (h2'.size + 1)) (.slice base (l.take i).length (l.take i).length) (l.take i) := by rw [hlen]; exact hb.lay _ _
  obtain ⟨hs1, hsr1⟩ := src_row (A := (h2'.lay [Blk.row b.cells 192 false] (h2'.size + 1)).size) (r := Rep.bind) (c := 1) (y := b) (by decide) (show (h2'.lay [Blk.row b.cells 192 false] (h2'.size + 1)).get (h2'.size + 0) = some (.row b.cells 192 false) by rw [lay_get]; rfl) rfl
  rw [kill_ge (Nat.le_refl _)] at hsr1
  obtain ⟨w1, h', e1, o1, x⟩ := app_full (h0 := h) (t := 162) ds162 tab_info192 rfl (by decide) (by rw [lay_size]; omega) hb' hs1 hsr1 (by omega) (by omega) (by omega)
  rw [hlen] at e1
  rw [e1]
  refine KOpsX_call (by simp only [lay_size, List.length_cons, List.length_nil]; omega) (by simpa only [lay_lay, lay_size, List.append_nil, List.length_cons, List.length_nil, Nat.zero_add] using x) ?_
  (( skip); replace z := z.overW x (by (try simp only [lsz]); omega); (try replace q0 := q0.over x); rw [lay_nil h'])
  simp -implicitDefEqProofs only [syms, symx, seval, c208, q0.lay, hva]
  repeat' (( with_reducible_and_instances refine from_rule (hl.mono z.inc) (by decide) ds162 sz192 (by omega) (fun w2 hb2 => ?_)) <;> simp -implicitDefEqProofs only [syms, symx, seval, c208, q0.lay, hva])
  simp -implicitDefEqProofs only [syms, symx, seval, c208, w_append, sty162]
  have hHs : (h2'.lay [Blk.row b.cells 192 false] (h2'.size + 1)).size = h2'.size + 1 := by rw [lay_size]; rfl
  rw [hHs] at o1
  obtain ⟨news, hs2, hsr2⟩ := src_sl (A := h2'.size + 1) (h := h'.lay [] (h'.size + 0)) (r := Rep.bind) (by decide) (hb2.lay _ _) (fun cs y hr => hr)
  have hl3 : (l.take i ++ [b]).length = i + 1 := by rw [List.length_append, hlen]; rfl
  have hl4 : (l.drop i).length ≤ 1000 := by rw [List.length_drop]; omega
  have hzz := z.size
  obtain ⟨w3, h3, A3, e3, o3, c3, e4, e5⟩ := app_ow (t := 162) ds162 tab_info192 rfl (by decide) (by rw [lay_size]; omega) (o1.mono (Inc.lay _ _ _)) hs2 hsr2 (by rw [hl3]; omega) (by rw [hl3]; omega)
  rw [e3]
  simp -implicitDefEqProofs only [syms, symx, seval, c208]
  refine KOpsX_chg (A := h2'.size + 1) (by kernel_rfl) (by rw [lay_size]; omega) (by omega) (by simpa only [lay_lay, lay_size, List.append_nil, List.length_cons, List.length_nil, Nat.zero_add] using c3) ?_
  replace z := (z.upW [] (h'.size + 0) (by omega)).step c3 (by omega)
  rw [lay_nil h3]
  repeat' (first | simp -implicitDefEqProofs only [syms, symx, seval, c208] | ((with_reducible refine ⟨z.grw.lay _ _, ?_⟩); (intro _ h' zz x _); (try simp only [lay_lay, List.append_nil] at x); (try replace o3 := o3.over x); (replace z := zz); (clear zz); rw [lay_nil h']))
  exact hk _ _ (z.upW _ _ (by omega)) (by have := (o3.sl (by decide)).lay [] h'.low; simpa only [List.append_assoc, List.singleton_append] using this)
theorem bld_bind (s : ByteArray) (t : TermD) : buildA tab 192 [(0, .string s), (1, t.val)] = some (BindD.val ⟨s, t⟩) := by kernel_rfl
theorem ok_under (l m : List BindD) (v u : Value) (h : Heap) (hl : Sl Rep.bind h v l) (hm : Sl Rep.bind h u m) (hs : l.length ≤ 1000) (hms : m.length ≤ 1000) (K : Value → Heap → Prop)
    (hk : ∀ h' w, Ext h h' → Sl Rep.bind h' w (underD l m) → K w h') : Ok Try.prog tab ov 209 [v, u] h K := by
  rw [lay_nil h]
  have z := Ext.refl h
  refine Ok.into rfl tab_fn209 (bodyF N209) rfl (m := 24) rfl ?_
  simp -implicitDefEqProofs only [syms, symx, seval, c209]
  repeat' (( with_reducible_and_instances refine ln_rule (hl.mono z.inc) ds162 ?_) <;> simp -implicitDefEqProofs only [syms, symx, seval, c209])
  obtain ⟨I1, hI1⟩ : ∃ I : Nat → Env → Heap → Prop, I = (fun n e h' => ∃ (i : Nat) (w : Value) (A : Nat) (h1 : Heap), h' = h1.lay [] h1.low ∧ Ext h h1 ∧ (n = l.length - i ∧ i ≤ l.length ∧ Ow Rep.bind h h1 192 A w (underD (l.take i) m)) ∧ ∃ J : Nat → Value, e = (v :: u :: jr J 2 3 (w :: jr J 6 2 (v :: .int .i64 l.length :: .int .i64 i :: jr J 11 15 ([]))))) := ⟨_, rfl⟩
  refine W_loopN I1 _ (by rw [hI1]; exact ⟨0, .slice none 0 0, h.size, _, rfl, z, ⟨rfl, by omega, Ow.nil (Nat.le_refl _)⟩, junk (by kernel_rfl)⟩) ?_
  intro n e h' hin
  rw [hI1] at hin
  obtain ⟨i, w, A, h1', rfl, z, hinv, J, rfl⟩ := hin
  obtain ⟨rfl, hi, ho⟩ := hinv
  have hw : IntKind.i64.wrap ((i : Int) + 1) = ((i + 1 : Nat) : Int) := by rw [wrap_i64 (by omega) (by omega)]; omega
  have hz := z.size
  simp -implicitDefEqProofs only [syms, symx, seval, c209]
  refine forkD (fun hlt => ?_) (fun hlt => ?_)
  rotate_left
  · repeat' ( simp -implicitDefEqProofs only [syms, symx, seval, c209])
    rw [List.take_of_length_le (by omega)] at ho
    exact hk _ _ (z.upW _ _ (by omega)) ((ho.sl (by decide)).lay _ _)
  obtain ⟨r, hr, hr'⟩ := amElem (l := l) (i := i) hlt
  have hlt2 := ho.lt
  simp -implicitDefEqProofs only [syms, symx, seval, c209]
  repeat' ((first | with_reducible_and_instances refine ixb_at (hl.mono z.inc) ds162 sz192 (by omega) hr (fun p hp => ?_) | with_reducible_and_instances refine ldb hp ag192 sz192 ?_) <;> simp -implicitDefEqProofs only [syms, symx, seval, c209, lay_set, storeO_row, List.all_cons, List.all_nil, Am.one, Bool.and_true, Bool.true_and, Bool.and_self, List.set_cons_zero, List.set_cons_succ, st4, st3, st9, st36, st39, st47, st41, st192, BindD.val, BindD.cells])
  refine (drawN (by simp only [c209])) (z.upW _ _ (by omega)) ?_
  repeat' ( simp -implicitDefEqProofs only [syms, symx, seval, c209, BindD.val, BindD.cells])
  refine ok_term m u r.term _ ((hm.mono z.inc).lay _ _) hms _ (fun h' x => ?_)
  (( ((with_reducible refine KOpsX_call ?_ ?_ ?_); (· exact (by (try simp only [lsz]); have := z.size; omega)); (·  exact x )) ); replace z := z.overW x (by (try simp only [lsz]); omega); (try replace ho := ho.over x); rw [lay_nil h'])
  simp -implicitDefEqProofs only [syms, symx, seval, c209, bld_bind, valE_bind, fill_bind]
  refine KOpsX_alloc (by have := z.size; omega) (by omega) ?_
  simp -implicitDefEqProofs only [syms, symx, seval, c209, w_append, sty162]
  have hlen : (underD (l.take i) m).length ≤ 1000 := by unfold underD; rw [List.length_map, List.length_take]; omega
  have hHs : (h'.lay [Blk.row (BindD.cells ⟨r.var, termD m r.term⟩) 192 false] (h'.size + 1)).size = h'.size + 1 := by rw [lay_size]; rfl
  have hzz := z.size
  obtain ⟨hs1, hsr1⟩ := src_row (A := A) (r := Rep.bind) (c := 1) (y := ⟨r.var, termD m r.term⟩) (by decide) (show (h'.lay [Blk.row (BindD.cells ⟨r.var, termD m r.term⟩) 192 false] (h'.size + 1)).get (h'.size + 0) = some (.row (BindD.cells ⟨r.var, termD m r.term⟩) 192 false) by rw [lay_get]; rfl) rfl
  obtain ⟨w', h'', A'', e1, e2, e3, e4, e5⟩ := app_ow (t := 162) ds162 tab_info192 rfl (by decide) (by rw [hHs]; omega) (ho.mono (Inc.lay _ _ _)) hs1 hsr1 (by omega) (by omega)
  have hfA := ho.fresh
  rw [e1]
  simp -implicitDefEqProofs only [syms, symx, seval, c209]
  refine KOpsX_chg (A := A) (by kernel_rfl) (by rw [lay_size]; omega) (by omega) (by simpa only [lay_lay, lay_size, List.append_nil, List.length_cons, List.length_nil, Nat.zero_add] using e3) ?_
  replace z := (z.upW [Blk.row (BindD.cells ⟨r.var, termD m r.term⟩) 192 false] (h'.size + 1) (by omega)).step e3 hfA
  have htk : underD (l.take (i + 1)) m = underD (l.take i) m ++ [⟨r.var, termD m r.term⟩] := by rw [List.take_add_one, hr']; unfold underD; rw [List.map_append]; rfl
  rw [← htk] at e2
  clear ho
  rw [lay_nil h'']
  repeat' (first | simp -implicitDefEqProofs only [syms, symx, seval, c209] | ((with_reducible refine ⟨z.grw.lay _ _, ?_⟩); (intro _ h' zz x _); (try simp only [lay_lay, List.append_nil] at x); (try replace e2 := e2.over x); (replace z := zz); (clear zz); rw [lay_nil h']))
  rw [hw]
  (rw [hI1]; with_reducible refine loopN_normal (m := _) ?_ ⟨i + 1, _, _, _, rfl, z, ⟨rfl, by omega, e2⟩, junk (by kernel_rfl)⟩; omega)
theorem bld_bind2 (s xs : ByteArray) (xv : Bool) : buildA tab 192 [(0, .string s), (1, .agg ⟨[.bool xv, .string xs]⟩)] = some (.agg ⟨[.string s, .bool xv, .string xs]⟩) := by kernel_rfl
theorem forkX {e : Int} {h : Heap} {K : Value → Heap → Prop} (h1 : e ≠ 0 → K (.bool true) h) (h2 : e = 0 → K (.bool false) h) : forkE (e != 0) h K := by
  refine ⟨fun hh => h1 (by simpa using hh), fun hh => h2 (by simpa using hh)⟩
theorem nil_bind {h : Heap} {v : Value} {l : List BindD} (f : Sl Rep.bind h v l) : ∃ b : Bool, binA Try.prog tab .eql 162 v (.slice none 0 0) = some (.bool b) ∧ (b = true → l = []) := by
  rcases f with ⟨rfl, rfl⟩ | ⟨A, o, c, row, u, ro, rfl, _⟩
  · exact ⟨true, by kernel_rfl, fun _ => rfl⟩
  · exact ⟨false, by kernel_rfl, nofun⟩
theorem ok_cloneB (l : List BindD) (v : Value) (h : Heap) (hl : Sl Rep.bind h v l) (hs : l.length ≤ 1000) (K : Value → Heap → Prop)
    (hk : ∀ h' w, Ext h h' → Sl Rep.bind h' w l → K w h') : Ok Try.prog tab ov 172 [v] h K := by
  rw [lay_nil h]
  obtain ⟨b, hb, hnil⟩ := nil_bind hl
  refine Ok.into rfl tab_fn172 (bodyF N172) rfl (m := 7) rfl ?_
  simp -implicitDefEqProofs only [syms, symx, seval, c172, hb]
  cases b
  · simp -implicitDefEqProofs only [syms, symx, seval, c172, w_append, sty162]
    obtain ⟨news, hs, hsr⟩ := src_sl (A := h.size + 1) (r := Rep.bind) (by decide) (hl.lay [.row [] 192 false] h.low) (fun cs y hr => hr)
    have f : Ow Rep.bind h (h.lay [.row [] 192 false] h.low) 192 (h.size + 1) (.slice (some ⟨h.size + 0, 0, none⟩) 0 0) [] :=
      .inl ⟨by omega, rfl, .inr ⟨h.size + 0, 0, rfl, by omega, by rw [lay_size]; simp, [], 192, false, by rw [lay_get]; rfl⟩⟩
    obtain ⟨w, h', A', e1, e2, e3, e4, e5⟩ := app_ow (t := 162) ds162 tab_info192 rfl (by decide) (by rw [lay_size]; omega) f hs hsr (by simp only [List.length_nil]; omega) (by simp only [List.length_nil]; omega)
    rw [e1]
    simp -implicitDefEqProofs only [syms, symx, seval, c172]
    exact hk _ _ ((Ext.refl h).stepW e3 (by omega) (by omega)) (by have := e2.sl (by decide); simpa using this)
  · simp -implicitDefEqProofs only [syms, symx, seval, c172]
    rw [hnil rfl] at hk
    exact hk _ _ ((Ext.refl h).upW _ _ (by omega)) Sl.nil
theorem sl_laidB {h : Heap} {b : BindD} {u : TypeId} {ro : Bool} {w : Nat} : Sl Rep.bind (h.lay [.row b.cells u ro] w) (.slice (some ⟨h.size + 0, 0, none⟩) 1 1) [b] := by
  refine .inr ⟨h.size + 0, 0, 1, b.cells, u, ro, rfl, (by show 1 ≤ maxLen; decide), .inl ⟨by decide, Nat.le_refl _⟩, by rw [lay_size]; simp, by rw [lay_get]; rfl, fun i x hx => ?_⟩
  cases i with
  | zero =>
    simp at hx
    subst hx
    exact ⟨_, rfl, rfl⟩
  | succ i => simp at hx
theorem ok_bind (l : List BindD) (v : Value) (s : ByteArray) (t : TermD) (h : Heap) (hl : Sl Rep.bind h v l) (hs : l.length ≤ 900) (K : Value → Heap → Prop)
    (hk : ∀ h' w e, Ext h h' → (bindD l s t = none → e ≠ 0) → (∀ m, bindD l s t = some m → e = 0 ∧ Sl Rep.bind h' w m) → K (.tuple #[w, .int .i64 e]) h') : Ok Try.prog tab ov 173 [v, .string s, t.val] h K := by
  rw [lay_nil h]
  have z := Ext.refl h
  rcases hg : subGet l s with ⟨⟨tv, ts⟩, pb⟩
  obtain ⟨x, hx⟩ : ∃ x, x = termD l t := ⟨_, rfl⟩
  rcases x with ⟨xv, xs⟩
  unfold bindD at hk
  rw [hg, ← hx] at hk
  refine Ok.into rfl tab_fn173 (bodyF N173) rfl (m := 41) rfl ?_
  simp -implicitDefEqProofs only [syms, symx, seval, c173, TermD.val, TermD.cells]
  repeat' ((first | ((with_reducible first | apply forkD | apply forkB | apply forkN | apply forkNP | apply forkNot) <;> intro _) | ((with_reducible refine ⟨z.grw.lay _ _, ?_⟩); (intro _ h' zz x _); (try simp only [lay_lay, List.append_nil] at x); (replace z := zz); (clear zz); rw [lay_nil h'])) <;> simp -implicitDefEqProofs only [syms, symx, seval, c173])
  refine ok_check l _ _ (hl.lay _ _) (by omega) _ (fun h' e x he => ?_)
  have q0 := Holds.top (i := 0) x rfl
  (( skip); replace z := z.overW x (by (try simp only [lsz]); omega); rw [lay_nil h'])
  simp -implicitDefEqProofs only [syms, symx, seval, c173]
  refine forkX ?_ ?_
  · intro hne
    simp -implicitDefEqProofs only [syms, symx, seval, c173]
    have hbad : ¬ ChkD l := fun hh => hne (he.2 hh)
    rw [if_pos hbad] at hk
    exact hk _ _ _ (z.upW _ _ (by omega)) (fun _ => by decide) (fun m hm => by cases hm)
  intro he0
  have hC := he.1 he0
  rw [if_neg (by simpa using hC)] at hk
  repeat' ( simp -implicitDefEqProofs only [syms, symx, seval, c173])
  refine ok_get l _ s _ ((hl.mono z.inc).lay _ _) (by omega) _ (fun h' x => ?_)
  rw [hg]
  (( skip); replace z := z.overW x (by (try simp only [lsz]); omega); (try replace q0 := q0.over x); rw [lay_nil h'])
  simp -implicitDefEqProofs only [syms, symx, seval, c173, q0.lay, TermD.val, TermD.cells]
  repeat' ((first | ((with_reducible first | apply forkD | apply forkB | apply forkN | apply forkNP | apply forkNot) <;> intro _) | ((with_reducible refine ⟨z.grw.lay _ _, ?_⟩); (intro _ h' zz x _); (try simp only [lay_lay, List.append_nil] at x); (try replace q0 := q0.over x); (replace z := zz); (clear zz); rw [lay_nil h'])) <;> simp -implicitDefEqProofs only [syms, symx, seval, c173, lay_set, storeO_row, List.all_cons, List.all_nil, Am.one, Bool.and_true, Bool.true_and, Bool.and_self, List.set_cons_zero, List.set_cons_succ, st4, st3, st9, st36, st39, st47, st41, st192, q0.lay, TermD.val, TermD.cells])
  refine forkT (fun hpb => ?_) (fun hpb => ?_)
  all_goals
    subst hpb
    repeat' ( simp -implicitDefEqProofs only [syms, symx, seval, c173, lay_set, storeO_row, List.all_cons, List.all_nil, Am.one, Bool.and_true, Bool.true_and, Bool.and_self, List.set_cons_zero, List.set_cons_succ, st4, st3, st9, st36, st39, st47, st41, st192, q0.lay, TermD.val, TermD.cells])
    refine ok_term l v t _ ((hl.mono z.inc).lay _ _) (by omega) _ (fun h' x => ?_)
    rw [← hx]
    (( skip); replace z := z.overW x (by (try simp only [lsz]); omega); (try replace q0 := q0.over x); rw [lay_nil h'])
    repeat' (first | simp -implicitDefEqProofs only [syms, symx, seval, c173, lay_set, storeO_row, List.all_cons, List.all_nil, Am.one, Bool.and_true, Bool.true_and, Bool.and_self, List.set_cons_zero, List.set_cons_succ, st4, st3, st9, st36, st39, st47, st41, st192, q0.lay, TermD.val, TermD.cells, bld_bind2] | ((with_reducible  apply forkD ) <;> intro _))
  all_goals try
    ((with_reducible refine hk _ _ _ (z.upW _ _ (by omega)) ?_ ?_) <;> (clear hk; intros; first | decide | (exfalso; simp_all)))
  have h1 : ¬ (s = ⟨#[]⟩ ∨ t.s = ⟨#[]⟩) := by simp [*]
  rw [if_neg h1, if_neg (by simp)] at hk
  refine ok_ownB ⟨s, ⟨xv, xs⟩⟩ _ _ (fun h' x => ?_)
  have q1 := Holds.top (i := 0) x rfl
  (( skip); replace z := z.overW x (by (try simp only [lsz]); omega); (try replace q0 := q0.over x); rw [lay_nil h'])
  cases hown : ownD ⟨s, ⟨xv, xs⟩⟩
  rotate_left
  · repeat' ( simp -implicitDefEqProofs only [syms, symx, seval, c173])
    rw [if_pos hown] at hk
    exact hk _ _ _ (z.upW _ _ (by omega)) (fun _ => by decide) (fun m hm => by cases hm)
  rw [if_neg (by rw [hown]; decide)] at hk
  repeat' ( simp -implicitDefEqProofs only [syms, symx, seval, c173])
  refine (drawN (by simp only [c173])) (z.upW _ _ (by omega)) ?_
  repeat' ( simp -implicitDefEqProofs only [syms, symx, seval, c173, q1.lay])
  refine KOpsX_alloc (by have := z.size; omega) (by omega) ?_
  simp -implicitDefEqProofs only [syms, symx, seval, c173]
  refine ok_under l [⟨s, ⟨xv, xs⟩⟩] v _ _ ((hl.mono z.inc).lay _ _) (sl_laidB (b := ⟨s, ⟨xv, xs⟩⟩)) (by omega) (by simp) _ (fun h' u x hu => ?_)
  (( ((with_reducible refine KOpsX_call ?_ ?_ ?_); (· exact (by (try simp only [lsz]); have := z.size; omega)); (·  exact x )) ); replace z := z.overW x (by (try simp only [lsz]); omega); (try replace q1 := q1.over x); rw [lay_nil h'])
  repeat' ( simp -implicitDefEqProofs only [syms, symx, seval, c173, q1.lay])
  refine ok_with (underD l [⟨s, ⟨xv, xs⟩⟩]) u ⟨s, ⟨xv, xs⟩⟩ _ (hu.lay _ _) (by unfold underD; rw [List.length_map]; omega) (rising_map hC.1) _ (fun h' w x hw => ?_)
  (( ((with_reducible refine KOpsX_call ?_ ?_ ?_); (· exact (by (try simp only [lsz]); have := z.size; omega)); (·  exact x )) ); replace z := z.overW x (by (try simp only [lsz]); omega); (try replace q1 := q1.over x); rw [lay_nil h'])
  repeat' (first | simp -implicitDefEqProofs only [syms, symx, seval, c173] | ((with_reducible refine ⟨z.grw.lay _ _, ?_⟩); (intro _ h' zz x _); (try simp only [lay_lay, List.append_nil] at x); (try replace hw := hw.over x); (replace z := zz); (clear zz); rw [lay_nil h']))
  exact hk _ _ _ (z.upW _ _ (by omega)) (fun hm => by cases hm) (fun m hm => by cases hm; exact ⟨rfl, hw.lay _ _⟩)
theorem withD_length (l : List BindD) (b : BindD) : (withD l b).length = l.length + 1 := by
  unfold withD
  rw [List.length_append, List.length_cons, ← Nat.add_assoc, ← List.length_append, List.takeWhile_append_dropWhile]
theorem bindD_length {l m : List BindD} {s : ByteArray} {t : TermD} (h : bindD l s t = some m) : m.length = l.length + 1 := by
  unfold bindD at h
  split at h
  · cases h
  split at h
  · cases h
  split at h
  · cases h
  split at h
  · cases h
  · cases h
    rw [withD_length]
    unfold underD
    rw [List.length_map]
theorem index_run0 (a : AtomD) : pureRun Try.prog (do let y ← Instr.index 37 (.agg ⟨a.argCells⟩) (.int .i64 0); pure (Next.value y)) = some (.value (a.arg 0).val) := by kernel_rfl
theorem index_run1 (a : AtomD) : pureRun Try.prog (do let y ← Instr.index 37 (.agg ⟨a.argCells⟩) (.int .i64 1); pure (Next.value y)) = some (.value (a.arg 1).val) := by kernel_rfl
theorem index_run2 (a : AtomD) : pureRun Try.prog (do let y ← Instr.index 37 (.agg ⟨a.argCells⟩) (.int .i64 2); pure (Next.value y)) = some (.value (a.arg 2).val) := by kernel_rfl
theorem index_run3 (a : AtomD) : pureRun Try.prog (do let y ← Instr.index 37 (.agg ⟨a.argCells⟩) (.int .i64 3); pure (Next.value y)) = some (.value (a.arg 3).val) := by kernel_rfl
theorem index_run (a : AtomD) (k : Nat) (h : k < 4) : pureRun Try.prog (do let y ← Instr.index 37 (.agg ⟨a.argCells⟩) (.int .i64 k); pure (Next.value y)) = some (.value (a.arg k).val) := by
  have : k = 0 ∨ k = 1 ∨ k = 2 ∨ k = 3 := by omega
  rcases this with rfl | rfl | rfl | rfl
  · exact index_run0 a
  · exact index_run1 a
  · exact index_run2 a
  · exact index_run3 a
theorem index_arg {d : Option Tmp} {ty : TypeId} {pos : String} {af : Array Edge} {g : Option (Nat × Bool)} {x i : Operand} {e : Env} {h : Heap} {K : Value → Heap → Prop} {a : AtomD} {k : Nat} (hk4 : k < 4) (hx : evalOperand e x = .agg ⟨a.argCells⟩) (hi : evalOperand e i = .int .i64 k)
    (hK : K (a.arg k).val h) : optE (pureOp Try.prog e ⟨d, .index 37 x i, ty, pos, af, g⟩ h) K := by
  have : pureOp Try.prog e ⟨d, .index 37 x i, ty, pos, af, g⟩ h = some ((a.arg k).val, h) := by
    unfold pureOp
    have hp : plain (.agg ⟨a.argCells⟩) = true := rfl
    have hp2 : plain (.int .i64 (k : Int)) = true := rfl
    rw [if_pos (by simp [Op.operands, hx, hi, hp, hp2])]
    have : pureRun Try.prog (execOp (evalOperand e) ⟨d, .index 37 x i, ty, pos, af, g⟩) = some (.value (a.arg k).val) := by
      simp only [execOp, hx, hi]
      exact index_run a k hk4
    rw [this]
    rfl
  rw [this]
  exact hK
theorem ok_alike (a b : AtomD) (h : Heap) (K : Value → Heap → Prop)
    (hk : ∀ h', Ext h h' → K (.bool (alikeD a b)) h') : Ok Try.prog tab ov 170 [a.val, b.val] h K := by
  rw [lay_nil h]
  have z := Ext.refl h
  refine Ok.into rfl tab_fn170 (bodyF N170) rfl (m := 32) rfl ?_
  simp -implicitDefEqProofs only [syms, symx, seval, c170, AtomD.val, AtomD.cells]
  repeat' (( ((with_reducible first | apply forkD | apply forkB ) <;> intro _)) <;> simp -implicitDefEqProofs only [syms, symx, seval, c170, AtomD.val, AtomD.cells])
  all_goals first
    | (have e : alikeD a b = true := by
         unfold alikeD
         simp only [Bool.and_eq_true, decide_eq_true_eq]
         refine ⟨?_, ?_, ?_, ?_, ?_⟩ <;> first | assumption | omega
       rw [e] at hk
       exact hk _ (z.upW _ _ (by omega)))
    | (have e : alikeD a b = false := by
         cases he : alikeD a b
         · rfl
         · exfalso
           unfold alikeD at he
           simp only [Bool.and_eq_true, decide_eq_true_eq] at he
           obtain ⟨e1, e2, e3, e4, e5⟩ := he
           first | contradiction | omega
       rw [e] at hk
       exact hk _ (z.upW _ _ (by omega)))
theorem placesD_none {p g : AtomD} {l : List BindD} {k m : Nat} (h : placesD p g k l = none) (hkm : k ≤ m) : placesD p g m l = none := by
  induction m with
  | zero =>
    have : k = 0 := by omega
    subst this
    exact h
  | succ m ih =>
    by_cases he : k = m + 1
    · subst he; exact h
    · unfold placesD
      rw [ih (by omega)]
      rfl
theorem loop_heapI {I : Nat → Env → Heap → Prop} {m : Nat} {Q : Ex → Env → Heap → Prop} {x : Ex} {e : Env} {h0 h1 : Heap} {bs : List Blk} {w : Nat} (z : Ext h0 (h1.lay bs w)) (hk : ∀ H, Ext h0 H → (∀ A b, Holds h1 A b → Holds H A b) → Inc h1 H → loopN I m Q x e (H.lay [] H.low)) : loopN I m Q x e (h1.lay bs w) := by
  have := hk _ z (fun A b q => q.on bs w) (Inc.lay _ _ _)
  rwa [← lay_nil] at this
theorem cut_n (a : AtomD) : a.cells[2]? = some (.int .i64 a.n) := rfl
theorem cut_args8 (a : AtomD) : cut a.cells 3 8 = some a.argCells := rfl
theorem cut_arg (a : AtomD) (k : Nat) (hk : k < 4) : cut a.cells (3 + k * 2) 2 = some (a.arg k).cells := by
  have : k = 0 ∨ k = 1 ∨ k = 2 ∨ k = 3 := by omega
  rcases this with rfl | rfl | rfl | rfl <;> rfl
theorem ok_ext (l : List BindD) (v : Value) (p g : AtomD) (h : Heap) (hl : Sl Rep.bind h v l) (hs : l.length ≤ 890) (K : Value → Heap → Prop)
    (hk : ∀ h' w b, Ext h h' → (extD l p g = none → b = false) → (∀ m, extD l p g = some m → b = true ∧ Sl Rep.bind h' w m) → K (.tuple #[w, .bool b]) h') : Ok Try.prog tab ov 140 [v, p.val, g.val] h K := by
  rw [lay_nil h]
  have z := Ext.refl h
  refine Ok.into rfl tab_fn140 (bodyF N140) rfl (m := 118) rfl ?_
  repeat' ( simp -implicitDefEqProofs only [syms, symx, seval, c140, cells_atom])
  refine ok_check l _ _ ((hl.mono z.inc).lay _ _) (by omega) _ (fun h' e x he => ?_)
  have q0 := Holds.top (i := 0) x rfl
  have q1 := Holds.top (i := 1) x rfl
  ((skip); replace z := z.overW x (by (try simp only [lsz]); omega); rw [lay_nil h'])
  simp -implicitDefEqProofs only [syms, symx, seval, c140]
  refine forkX ?_ ?_
  · intro hne
    repeat' ( simp -implicitDefEqProofs only [syms, symx, seval, c140])
    have hn : extD l p g = none := by unfold extD; rw [if_pos (.inl (fun hh => hne (he.2 hh)))]
    exact hk _ _ _ (z.upW _ _ (by omega)) (fun _ => rfl) (fun m hm => by rw [hn] at hm; cases hm)
  intro he0
  have hC := he.1 he0
  simp -implicitDefEqProofs only [syms, symx, seval, c140, q0.lay, q1.lay, ↓cut_atom, agg_atom, valE_atom]
  refine ok_alike p g _ _ (fun h' x => ?_)
  ((skip); replace z := z.overW x (by (try simp only [lsz]); omega); (try replace q0 := q0.over x); (try replace q1 := q1.over x); rw [lay_nil h'])
  cases hal : alikeD p g
  · repeat' (first | simp -implicitDefEqProofs only [syms, symx, seval, c140] | ((with_reducible_and_instances apply unop_not); (· rfl)))
    have hn : extD l p g = none := by unfold extD; rw [if_pos (.inr (.inl hal))]
    exact hk _ _ _ (z.upW _ _ (by omega)) (fun _ => rfl) (fun m hm => by rw [hn] at hm; cases hm)
  repeat' (first | simp -implicitDefEqProofs only [syms, symx, seval, c140, q0.lay, q1.lay, ↓cut_atom, agg_atom, valE_atom] | ((with_reducible_and_instances apply unop_not); (· rfl)))
  refine ok_ground g _ _ (fun h' x => ?_)
  ((skip); replace z := z.overW x (by (try simp only [lsz]); omega); (try replace q0 := q0.over x); (try replace q1 := q1.over x); rw [lay_nil h'])
  cases hgr : g.ground
  · repeat' (first | simp -implicitDefEqProofs only [syms, symx, seval, c140] | ((with_reducible_and_instances apply unop_not); (· rfl)))
    have hn : extD l p g = none := by unfold extD; rw [if_pos (.inr (.inr hgr))]
    exact hk _ _ _ (z.upW _ _ (by omega)) (fun _ => rfl) (fun m hm => by rw [hn] at hm; cases hm)
  repeat' (first | simp -implicitDefEqProofs only [syms, symx, seval, c140, q0.lay, q1.lay, ↓cut_args8] | ((with_reducible_and_instances apply unop_not); (· rfl)))
  have hp4 : 0 ≤ p.n ∧ p.n ≤ 4 := by
    unfold alikeD at hal
    simp only [Bool.and_eq_true, decide_eq_true_eq] at hal
    exact hal.2.2.2
  obtain ⟨I1, hI1⟩ : ∃ I : Nat → Env → Heap → Prop, I = (fun n e h' => ∃ (k : Nat) (h1 : Heap), h' = h1.lay [] h1.low ∧ Ext h h1 ∧ (n = 4 - k ∧ k ≤ 4 ∧ (∀ i, i < k → (i : Int) < p.n → barD l (p.arg i) = false) ∧ Holds h1 (h.size + 0) (.row p.cells 39 false) ∧ Holds h1 (h.size + 1) (.row g.cells 39 false)) ∧ ∃ J : Nat → Value, e = (v :: jr J 1 3 (.pointer (some ⟨h.size + 0, 0, none⟩) :: .pointer (some ⟨h.size + 1, 0, none⟩) :: jr J 6 30 (.agg ⟨p.argCells⟩ :: .int .i64 k :: jr J 38 83 ([]))))) := ⟨_, rfl⟩
  refine W_loopN I1 _ (by rw [hI1]; exact ⟨0, _, rfl, z, ⟨rfl, by omega, by intro i hi; omega, q0, q1⟩, junk (by kernel_rfl)⟩) ?_
  intro n e h' hin
  rw [hI1] at hin
  obtain ⟨k, h1', rfl, z, hinv, J, rfl⟩ := hin
  clear q0 q1
  obtain ⟨rfl, hk4, hbar, q0, q1⟩ := hinv
  have hw : IntKind.i64.wrap ((k : Int) + 1) = ((k + 1 : Nat) : Int) := by rw [wrap_i64 (by omega) (by omega)]; omega
  simp -implicitDefEqProofs only [syms, symx, seval, c140]
  refine forkD (fun hlt => ?_) (fun hlt => ?_)
  rotate_left
  · repeat' ( simp -implicitDefEqProofs only [syms, symx, seval, c140])
    have hbar4 : ¬ ∃ i : Nat, i < 4 ∧ (i : Int) < p.n ∧ barD l (p.arg i) = true := by
      rintro ⟨i, g1, g2, g3⟩
      rw [hbar i (by omega) g2] at g3
      cases g3
    have hext : extD l p g = placesD p g p.n.toNat l := by
      unfold extD
      rw [if_neg (by simp [hC, hal, hgr]), if_neg hbar4]
    refine ok_cloneB l v _ ((hl.mono z.inc).lay _ _) (by omega) _ (fun h' w x hw2 => ?_)
    ((skip); replace z := z.overW x (by (try simp only [lsz]); omega); (try replace q0 := q0.over x); (try replace q1 := q1.over x); rw [lay_nil h'])
    repeat' ( simp -implicitDefEqProofs only [syms, symx, seval, c140, q0.lay, ↓cut_args8])
    obtain ⟨I2, hI2⟩ : ∃ I : Nat → Env → Heap → Prop, I = (fun n e h' => ∃ (k : Nat) (out : List BindD) (w : Value) (h1 : Heap), h' = h1.lay [] h1.low ∧ Ext h h1 ∧ (n = 4 - k ∧ k ≤ 4 ∧ k ≤ p.n.toNat ∧ placesD p g k l = some out ∧ Sl Rep.bind h1 w out ∧ out.length ≤ l.length + k ∧ Holds h1 (h.size + 0) (.row p.cells 39 false) ∧ Holds h1 (h.size + 1) (.row g.cells 39 false)) ∧ ∃ J : Nat → Value, e = (jr J 0 4 (.pointer (some ⟨h.size + 0, 0, none⟩) :: .pointer (some ⟨h.size + 1, 0, none⟩) :: jr J 6 6 (w :: .bool true :: jr J 14 58 (.agg ⟨p.argCells⟩ :: .int .i64 k :: jr J 74 47 ([])))))) := ⟨_, rfl⟩
    refine W_loopN I2 _ (by rw [hI2]; exact ⟨0, l, w, _, rfl, z, ⟨rfl, by omega, by omega, rfl, hw2, by omega, q0, q1⟩, junk (by kernel_rfl)⟩) ?_
    intro n e h' hin
    rw [hI2] at hin
    obtain ⟨k, out, w, h2', rfl, z, hinv, J, rfl⟩ := hin
    clear q0 q1
    obtain ⟨rfl, hk4, hkn, hpl, hout, hlen, q0, q1⟩ := hinv
    have hw : IntKind.i64.wrap ((k : Int) + 1) = ((k + 1 : Nat) : Int) := by rw [wrap_i64 (by omega) (by omega)]; omega
    simp -implicitDefEqProofs only [syms, symx, seval, c140]
    refine forkD (fun hlt => ?_) (fun hlt => ?_)
    rotate_left
    · repeat' (first | simp -implicitDefEqProofs only [syms, symx, seval, c140] | ((with_reducible_and_instances apply unop_not); (· rfl)))
      have hkk : p.n.toNat = k := by omega
      rw [hext, hkk, hpl] at hk
      exact hk _ _ _ (z.upW _ _ (by omega)) (fun hm => by cases hm) (fun m hm => by cases hm; exact ⟨rfl, hout.lay _ _⟩)
    rcases hg : subGet out (p.arg k).s with ⟨⟨tv, ts⟩, pb⟩
    have hin4 : (0 : Int) ≤ (k : Int) ∧ (k : Int) < 4 := by omega
    have hca := cut_arg g k (by omega)
    have hb32 : ∀ (Q : Ex → Env → Heap → Prop) (e : Env) (h : Heap), blockE 3 Q (.exit 2) e h = Q (.exit 2) e h := fun Q e h => blockE_exit_ne 3 2 Q e h rfl
    simp -implicitDefEqProofs only [syms, symx, seval, c140]
    repeat' ((first | ((with_reducible  apply forkB ) <;> intro _) | ((with_reducible_and_instances refine index_arg (by omega) rfl rfl ?_)) | ((with_reducible_and_instances apply unop_not); (· rfl))) <;> simp -implicitDefEqProofs only [syms, symx, seval, c140, lay_set, storeO_row, List.all_cons, List.all_nil, Am.one, Bool.and_true, Bool.true_and, Bool.and_self, List.set_cons_zero, List.set_cons_succ, st4, st3, st9, st36, st39, st47, st41, st192, q0.lay, q1.lay, cut_n, TermD.val, TermD.cells, hin4, ↓hca, agg_term, valE_term, and_self, if_true, hb32, loopN_exit])
    · have hkk : p.n.toNat = k := by omega
      rw [hext, hkk, hpl] at hk
      exact hk _ _ _ (z.upW _ _ (by omega)) (fun hm => by cases hm) (fun m hm => by cases hm; exact ⟨rfl, hout.lay _ _⟩)
    have hnext : placesD p g (k + 1) l = placeD out (p.arg k) (g.arg k) := by
      conv => lhs; unfold placesD
      rw [hpl]
      rfl
    refine ok_get out w (p.arg k).s _ (hout.lay _ _) (by omega) _ (fun h' x => ?_)
    rw [hg]
    have q2 := Holds.top (i := 0) x rfl
    have q3 := Holds.top (i := 1) x rfl
    replace hout := hout.over x
    ((skip); replace z := z.overW x (by (try simp only [lsz]); omega); (try replace q0 := q0.over x); (try replace q1 := q1.over x); rw [lay_nil h'])
    simp -implicitDefEqProofs only [syms, symx, seval, c140, lay_set, storeO_row, List.all_cons, List.all_nil, Am.one, Bool.and_true, Bool.true_and, Bool.and_self, List.set_cons_zero, List.set_cons_succ, st4, st3, st9, st36, st39, st47, st41, st192, q0.lay, q1.lay, q2.lay, q3.lay, TermD.val, TermD.cells]
    repeat' ((first | ((with_reducible  apply forkD ) <;> intro _) | with_reducible refine forkT (fun _ => ?_) (fun _ => ?_) | ((with_reducible_and_instances apply unop_not); (· rfl))) <;> simp -implicitDefEqProofs only [syms, symx, seval, c140, lay_set, storeO_row, List.all_cons, List.all_nil, Am.one, Bool.and_true, Bool.true_and, Bool.and_self, List.set_cons_zero, List.set_cons_succ, st4, st3, st9, st36, st39, st47, st41, st192, q0.lay, q1.lay, q2.lay, q3.lay, TermD.val, TermD.cells, bin_termE2, hb32, loopN_exit])
    all_goals try first
      | ((with_reducible refine hk _ _ _ (z.upW _ _ (by omega)) (fun _ => rfl) (fun m hm => ?_))
         have hpd : placeD out (p.arg k) (g.arg k) = none := by
           unfold placeD
           rw [hg]
           first
             | rw [if_pos (by assumption), if_neg (by assumption)]
             | rw [if_neg (by simp [*]), if_pos (by assumption), if_neg (by assumption)]
         have hn : extD l p g = none := by
           rw [hext]
           exact placesD_none (k := k + 1) (by rw [hnext, hpd]) (by omega)
         rw [hn] at hm
         cases hm)
      | (have hpd : placeD out (p.arg k) (g.arg k) = some out := by
           unfold placeD
           rw [hg]
           first
             | rw [if_pos (by assumption), if_pos (by assumption)]
             | rw [if_neg (by simp [*]), if_pos (by assumption), if_pos (by assumption)]
         rw [hw]
         refine loop_heapI (z.upW _ _ (by omega)) (fun H z hO hI => ?_)
         (rw [hI2]; with_reducible refine loopN_normal (m := _) ?_ ⟨k + 1, out, w, _, rfl, z, ⟨rfl, by omega, by omega, by rw [hnext, hpd], hout.mono hI, by omega, hO _ _ q0, hO _ _ q1⟩, junk (by kernel_rfl)⟩; omega))
    have hpd : placeD out (p.arg k) (g.arg k) = bindD out (p.arg k).s (g.arg k) := by
      unfold placeD
      rw [hg, if_neg (by simp [*]), if_neg (by simp [*])]
    refine ok_bind out w (p.arg k).s (g.arg k) _ (hout.lay _ _) (by omega) _ (fun h' w2 e x hbn hbs => ?_)
    ((skip); replace z := z.overW x (by (try simp only [lsz]); omega); (try replace q0 := q0.over x); (try replace q1 := q1.over x); rw [lay_nil h'])
    have hva := vSelf w2
    by_cases he2 : e = 0
    · have hbeq : (e == 0) = true := by simpa using he2
      simp -implicitDefEqProofs only [syms, symx, seval, c140, hva, hbeq]
      repeat' (( ((with_reducible_and_instances apply unop_not); (· rfl))) <;> simp -implicitDefEqProofs only [syms, symx, seval, c140, hva, hbeq, hb32, loopN_exit])
      cases hbd : bindD out (p.arg k).s (g.arg k) with
      | none => exact absurd he2 (hbn hbd)
      | some m =>
        have hsl := (hbs m hbd).2
        have hml := bindD_length hbd
        rw [hw]
        (rw [hI2]; with_reducible refine loopN_normal (m := _) ?_ ⟨k + 1, m, w2, _, rfl, z, ⟨rfl, by omega, by omega, by rw [hnext, hpd, hbd], hsl, by omega, q0, q1⟩, junk (by kernel_rfl)⟩; omega)
    · have hbeq : (e == 0) = false := by simpa using he2
      simp -implicitDefEqProofs only [syms, symx, seval, c140, hva, hbeq]
      repeat' (( ((with_reducible_and_instances apply unop_not); (· rfl))) <;> simp -implicitDefEqProofs only [syms, symx, seval, c140, hva, hbeq, hb32, loopN_exit])
      have hn : extD l p g = none := by
        rw [hext]
        refine placesD_none (k := k + 1) ?_ (by omega)
        rw [hnext, hpd]
        cases hbd : bindD out (p.arg k).s (g.arg k) with
        | none => rfl
        | some m => exact absurd (hbs m hbd).1 he2
      exact hk _ _ _ (z.upW _ _ (by omega)) (fun _ => rfl) (fun m hm => by rw [hn] at hm; cases hm)
  rcases hg : subGet l (p.arg k).s with ⟨⟨tv, ts⟩, pb⟩
  simp -implicitDefEqProofs only [syms, symx, seval, c140]
  repeat' (( ((with_reducible_and_instances refine index_arg (by omega) rfl rfl ?_))) <;> simp -implicitDefEqProofs only [syms, symx, seval, c140, lay_set, storeO_row, List.all_cons, List.all_nil, Am.one, Bool.and_true, Bool.true_and, Bool.and_self, List.set_cons_zero, List.set_cons_succ, st4, st3, st9, st36, st39, st47, st41, st192, TermD.val, TermD.cells])
  refine ok_get l v (p.arg k).s _ (hl.mono (z.upW _ _ (by omega)).inc) (by omega) _ (fun h' x => ?_)
  rw [hg]
  have q2 := Holds.top (i := 0) x rfl
  ((skip); replace z := z.overW x (by (try simp only [lsz]); omega); (try replace q0 := q0.over x); (try replace q1 := q1.over x); rw [lay_nil h'])
  simp -implicitDefEqProofs only [syms, symx, seval, c140, lay_set, storeO_row, List.all_cons, List.all_nil, Am.one, Bool.and_true, Bool.true_and, Bool.and_self, List.set_cons_zero, List.set_cons_succ, st4, st3, st9, st36, st39, st47, st41, st192, q0.lay, q2.lay, TermD.val, TermD.cells]
  repeat' ((first | ((with_reducible  apply forkD ) <;> intro _) | with_reducible refine forkT (fun _ => ?_) (fun _ => ?_)) <;> simp -implicitDefEqProofs only [syms, symx, seval, c140, lay_set, storeO_row, List.all_cons, List.all_nil, Am.one, Bool.and_true, Bool.true_and, Bool.and_self, List.set_cons_zero, List.set_cons_succ, st4, st3, st9, st36, st39, st47, st41, st192, q0.lay, q2.lay, TermD.val, TermD.cells, cut_n])
  all_goals first
    | ((with_reducible refine hk _ _ _ (z.upW _ _ (by omega)) (fun _ => rfl) (fun m hm => ?_))
       have hb : barD l (p.arg k) = true := by (unfold barD; rw [hg]; simp [*])
       have hn : extD l p g = none := by
         unfold extD
         split
         · rfl
         · rw [if_pos ⟨k, by omega, by omega, hb⟩]
       rw [hn] at hm
       cases hm)
    | (have hnx : ∀ i, i < k + 1 → (i : Int) < p.n → barD l (p.arg i) = false := by
         intro i hi hin
         by_cases hik : i = k
         · subst hik
           first | (exfalso; omega) | (unfold barD; rw [hg]; simp [*])
         · exact hbar i (by omega) hin
       rw [hw]
       refine loop_heapI (z.upW _ _ (by omega)) (fun H z hO _ => ?_)
       (rw [hI1]; with_reducible refine loopN_normal (m := _) ?_ ⟨k + 1, _, rfl, z, ⟨rfl, by omega, hnx, hO _ _ q0, hO _ _ q1⟩, junk (by kernel_rfl)⟩; omega))
theorem ok_match (p g : AtomD) (h : Heap) (K : Value → Heap → Prop)
    (hk : ∀ h' w b, Ext h h' → (extD [] p g = none → b = false) → (∀ m, extD [] p g = some m → b = true ∧ Sl Rep.bind h' w m) → K (.tuple #[w, .bool b]) h') : Ok Try.prog tab ov 139 [p.val, g.val] h K := by
  rw [lay_nil h]
  have z := Ext.refl h
  refine Ok.into rfl tab_fn139 (bodyF N139) rfl (m := 9) rfl ?_
  repeat' ( simp -implicitDefEqProofs only [syms, symx, seval, c139, cells_atom, ↓cut_atom, agg_atom, valE_atom])
  refine ok_ext [] _ p g _ Sl.nil (by simp) _ (fun h' w b x hn hs => ?_)
  ((skip); replace z := z.overW x (by (try simp only [lsz]); omega); rw [lay_nil h'])
  have hva := vSelf w
  cases b
  all_goals
    repeat' ( simp -implicitDefEqProofs only [syms, symx, seval, c139, hva])
    exact hk _ _ _ (z.upW _ _ (by omega)) hn (fun m hm => ⟨(hs m hm).1, (hs m hm).2.lay _ _⟩)
theorem placesD_length {p g : AtomD} {l m : List BindD} {k : Nat} (h : placesD p g k l = some m) : m.length ≤ l.length + k := by
  induction k generalizing m with
  | zero => cases h; omega
  | succ k ih =>
    unfold placesD at h
    cases ho : placesD p g k l with
    | none => rw [ho] at h; cases h
    | some o =>
      rw [ho] at h
      have h1 := ih ho
      simp only [Option.bind_some] at h
      unfold placeD at h
      split at h
      · split at h
        · cases h; omega
        · cases h
      · split at h
        · split at h
          · cases h; omega
          · cases h
        · have := bindD_length h
          omega
theorem extD_length {p g : AtomD} {l m : List BindD} (h : extD l p g = some m) : m.length ≤ l.length + 4 := by
  unfold extD at h
  split at h
  · cases h
  rename_i hc
  split at h
  · cases h
  have h1 := placesD_length h
  have h2 : p.n ≤ 4 := by
    have : alikeD p g = true := by
      cases hal : alikeD p g
      · exact absurd (.inr (.inl hal)) hc
      · rfl
    unfold alikeD at this
    simp only [Bool.and_eq_true, decide_eq_true_eq] at this
    exact this.2.2.2.2
  omega
theorem siz_atom (a : AtomD) : a.val.cells.size = 11 := rfl
theorem len_atom (a : AtomD) : a.cells.length = 11 := rfl
theorem one_atom (a : AtomD) : a.cells.all Am.one = true := rfl
theorem drop11 (z0 z1 z2 z3 z4 z5 z6 z7 z8 z9 z10 : Value) : List.drop 11 [z0, z1, z2, z3, z4, z5, z6, z7, z8, z9, z10] = [] := rfl
theorem dec11 : decide (11 ≤ 11) = true := rfl
theorem cut_cl0 (a : AtomD) (u : Value) : cut (a.cells ++ [u]) 0 11 = some a.cells := rfl
theorem cell_cl1 (a : AtomD) (u : Value) : (a.cells ++ [u])[11]? = some u := rfl
theorem ok_inst (c : ClauseD) (b : Value) (a : AtomD) (v : Value) (body : List AtomD) (h : Heap) (hb : Sl Rep.atom h b c.body) (hv : Sl Rep.atom h v body) (hs : body.length ≤ 100) (K : Value → Heap → Prop)
    (hk : ∀ h', Ext h h' → K (.bool (instD c a body)) h') : Ok Try.prog tab ov 82 [.agg ⟨c.head.cells ++ [b]⟩, a.val, v] h K := by
  rw [lay_nil h]
  have z := Ext.refl h
  have hvb := vSelf b
  refine Ok.into rfl tab_fn82 (bodyF N82) rfl (m := 46) rfl ?_
  repeat' ( simp -implicitDefEqProofs only [syms, symx, seval, c82, cells_atom, ↓cut_atom, ↓cut_cl0, agg_atom, valE_atom])
  refine ok_match c.head a _ _ (fun h' w bb x hn hs1 => ?_)
  have q0 := Holds.top (i := 0) x rfl
  (( skip); replace z := z.overW x (by (try simp only [lsz]); omega); rw [lay_nil h'])
  have hva := vSelf w
  cases hx : extD [] c.head a with
  | none =>
    obtain rfl := hn hx
    repeat' (first | simp -implicitDefEqProofs only [syms, symx, seval, c82, hva] | ((with_reducible_and_instances apply unop_not); (· rfl)))
    have hi : instD c a body = false := by unfold instD; rw [hx]
    rw [hi] at hk
    exact hk _ (z.upW _ _ (by omega))
  | some m =>
  obtain ⟨rfl, hm⟩ := hs1 m hx
  have hml := extD_length hx
  simp only [List.length_nil] at hml
  simp -implicitDefEqProofs only [syms, symx, seval, c82, hva]
  repeat' ((first | ((with_reducible  apply forkN ) <;> intro _) | with_reducible_and_instances refine ln_rule (hv.mono z.inc) ds23 ?_ | with_reducible_and_instances refine ln_rule (hb.mono z.inc) ds23 ?_ | ((with_reducible_and_instances apply unop_not); (· rfl))) <;> simp -implicitDefEqProofs only [syms, symx, seval, c82, hva, q0.lay, cell_cl1, hvb])
  · have hne : body.length ≠ c.body.length := by omega
    have hi : instD c a body = false := by unfold instD; rw [hx]; simp [hne]
    rw [hi] at hk
    exact hk _ (z.upW _ _ (by omega))
  have heq : body.length = c.body.length := by omega
  have hin : instD c a body = (bodyD c.body body m).isSome := by unfold instD; rw [hx]; simp [heq]
  rw [hin] at hk
  obtain ⟨I1, hI1⟩ : ∃ I : Nat → Env → Heap → Prop, I = (fun n e h' => ∃ (i : Nat) (l : List BindD) (w : Value) (h1 : Heap), h' = h1.lay [] h1.low ∧ Ext h h1 ∧ (n = body.length - i ∧ i ≤ body.length ∧ bodyD c.body body m = bodyD (c.body.drop i) (body.drop i) l ∧ Sl Rep.bind h1 w l ∧ l.length ≤ 4 + 4 * i ∧ Holds h1 (h.size + 0) (.row (c.head.cells ++ [b]) 47 false)) ∧ ∃ J : Nat → Value, e = (jr J 0 3 (.pointer (some ⟨h.size + 0, 0, none⟩) :: jr J 4 3 (w :: jr J 8 20 (v :: .int .i64 body.length :: .int .i64 i :: jr J 31 18 ([])))))) := ⟨_, rfl⟩
  refine W_loopN I1 _ (by rw [hI1]; exact ⟨0, m, w, _, rfl, z, ⟨rfl, by omega, rfl, hm, by omega, q0⟩, junk (by kernel_rfl)⟩) ?_
  intro n e h' hin
  rw [hI1] at hin
  obtain ⟨i, l, w, h1', rfl, z, hinv, J, rfl⟩ := hin
  clear q0 hm hva hs1
  obtain ⟨rfl, hi, hbd, hl, hll, q0⟩ := hinv
  have hw : IntKind.i64.wrap ((i : Int) + 1) = ((i + 1 : Nat) : Int) := by rw [wrap_i64 (by omega) (by omega)]; omega
  have hva := vSelf w
  simp -implicitDefEqProofs only [syms, symx, seval, c82]
  refine forkD (fun hlt => ?_) (fun hlt => ?_)
  rotate_left
  · repeat' ( simp -implicitDefEqProofs only [syms, symx, seval, c82])
    have hd : bodyD c.body body m = some l := by
      rw [hbd, List.drop_of_length_le (by omega), List.drop_of_length_le (by omega)]
      rfl
    rw [hd] at hk
    exact hk _ (z.upW _ _ (by omega))
  obtain ⟨r, hr, hr'⟩ := amElem (l := body) (i := i) hlt
  obtain ⟨y, hy, hy'⟩ := amElem (l := c.body) (i := i) (by omega)
  have hstep : bodyD c.body body m = (extD l y r).bind (bodyD (c.body.drop (i + 1)) (body.drop (i + 1))) := by
    rw [hbd]
    have d1 : c.body.drop i = y :: c.body.drop (i + 1) := by
      obtain ⟨hh, he⟩ := List.getElem?_eq_some_iff.1 hy'
      rw [← he]
      exact List.drop_eq_getElem_cons hh
    have d2 : body.drop i = r :: body.drop (i + 1) := by
      obtain ⟨hh, he⟩ := List.getElem?_eq_some_iff.1 hr'
      rw [← he]
      exact List.drop_eq_getElem_cons hh
    rw [d1, d2]
    rfl
  simp -implicitDefEqProofs only [syms, symx, seval, c82]
  repeat' ((first | with_reducible_and_instances refine ixa_at (hv.mono z.inc) ds23 sz39 (by omega) hr (fun p hp => ?_) | with_reducible_and_instances refine lda hp ag39 sz39 ?_) <;> simp -implicitDefEqProofs only [syms, symx, seval, c82, lay_set, storeO_row, List.all_cons, List.all_nil, Am.one, Bool.and_true, Bool.true_and, Bool.and_self, List.set_cons_zero, List.set_cons_succ, st4, st3, st9, st36, st39, st47, st41, st192, cells_atom, siz_atom, len_atom, one_atom, drop11, dec11, List.append_nil, if_true])
  refine (drawN (by simp only [c82])) (z.upW _ _ (by omega)) ?_
  repeat' (first | simp -implicitDefEqProofs only [syms, symx, seval, c82, hva, hvb, q0.lay, cell_cl1, ↓cut_atom, agg_atom, valE_atom] | with_reducible_and_instances refine ixa_at (hb.mono z.inc) ds23 sz39 (by omega) hy (fun p hp => ?_) | with_reducible_and_instances refine lda hp ag39 sz39 ?_)
  refine ok_ext l w y r _ ((hl.lay _ _)) (by omega) _ (fun h' w2 bb x hn2 hs2 => ?_)
  (( ((with_reducible refine KOpsX_call ?_ ?_ ?_); (· exact (by (try simp only [lsz]); have := z.size; omega)); (·  exact x )) ); replace z := z.overW x (by (try simp only [lsz]); omega); (try replace q0 := q0.over x); rw [lay_nil h'])
  have hva2 := vSelf w2
  cases hx2 : extD l y r with
  | none =>
    obtain rfl := hn2 hx2
    repeat' (first | simp -implicitDefEqProofs only [syms, symx, seval, c82, hva2] | ((with_reducible_and_instances apply unop_not); (· rfl)) | ((with_reducible refine ⟨z.grw.lay _ _, ?_⟩); (intro _ h' zz x _); (try simp only [lay_lay, List.append_nil] at x); (try replace q0 := q0.over x); (replace z := zz); (clear zz); rw [lay_nil h']))
    rw [hstep, hx2] at hk
    exact hk _ (z.upW _ _ (by omega))
  | some l2 =>
    obtain ⟨rfl, hl2⟩ := hs2 l2 hx2
    have hll2 := extD_length hx2
    repeat' (first | simp -implicitDefEqProofs only [syms, symx, seval, c82, hva2] | ((with_reducible_and_instances apply unop_not); (· rfl)) | ((with_reducible refine ⟨z.grw.lay _ _, ?_⟩); (intro _ h' zz x _); (try simp only [lay_lay, List.append_nil] at x); (try replace q0 := q0.over x); (try replace hl2 := hl2.over x); (replace z := zz); (clear zz); rw [lay_nil h']))
    rw [hw]
    rw [hx2, Option.bind_some] at hstep
    (rw [hI1]; with_reducible refine loopN_normal (m := _) ?_ ⟨i + 1, l2, w2, _, rfl, z, ⟨rfl, by omega, hstep, hl2, by omega, q0⟩, junk (by kernel_rfl)⟩; omega)
theorem cut_re0 (a : AtomD) (u w : Value) : cut (a.cells ++ [u, w]) 0 11 = some a.cells := rfl
theorem cell_re1 (a : AtomD) (u w : Value) : (a.cells ++ [u, w])[11]? = some u := rfl
theorem cell_re2 (a : AtomD) (u w : Value) : (a.cells ++ [u, w])[12]? = some w := rfl
theorem ok_right (cl : List ClauseD) (facts : List AtomD) (r : ReasonD) (cv fv b : Value) (h : Heap) (hc : Sl Rep.clause h cv cl) (hf : Sl Rep.atom h fv facts) (hb : Sl Rep.atom h b r.body) (hcs : cl.length ≤ 1000) (hfs : facts.length ≤ 1000) (hs : r.body.length ≤ 100) (K : Value → Heap → Prop)
    (hk : ∀ h', Ext h h' → K (.bool (rightD cl facts r)) h') : Ok Try.prog tab ov 21 [cv, fv, .agg ⟨r.atom.cells ++ [.int .i64 r.clause, b]⟩] h K := by
  rw [lay_nil h]
  have z := Ext.refl h
  have hvb := vSelf b
  refine Ok.into rfl tab_fn21 (bodyF N21) rfl (m := 44) rfl ?_
  repeat' ( simp -implicitDefEqProofs only [syms, symx, seval, c21, ↓cut_re0, agg_atom, valE_atom])
  refine ok_ground r.atom _ _ (fun h' x => ?_)
  have q0 := Holds.top (i := 0) x rfl
  (( skip); replace z := z.overW x (by (try simp only [lsz]); omega); (try replace q0 := q0.over x); rw [lay_nil h'])
  cases hg : r.atom.ground
  · repeat' (first | simp -implicitDefEqProofs only [syms, symx, seval, c21] | ((with_reducible_and_instances apply unop_not); (· rfl)))
    have hr : rightD cl facts r = false := by unfold rightD; rw [hg]; rfl
    rw [hr] at hk
    exact hk _ (z.upW _ _ (by omega))
  simp -implicitDefEqProofs only [syms, symx, seval, c21]
  repeat' ((first | ((with_reducible first | apply forkD | apply forkB ) <;> intro _) | with_reducible_and_instances refine ln_rule (hb.mono z.inc) ds23 ?_ | with_reducible_and_instances refine ln_rule (hc.mono z.inc) ds22 ?_ | ((with_reducible_and_instances apply unop_not); (· rfl))) <;> simp -implicitDefEqProofs only [syms, symx, seval, c21, q0.lay, ↓cut_re0, cell_re1, cell_re2, hvb, agg_atom, valE_atom])
  all_goals try
    (have e : rightD cl facts r = false := by
       unfold rightD
       rw [hg, Bool.true_and]
       first
         | (rw [if_pos (by omega)]
            have : r.body ≠ [] := fun hh => by
              have : r.body.length = 0 := by rw [hh]; rfl
              omega
            simp [this])
         | rw [if_neg (by omega), if_pos (by omega)]
         | rw [if_neg (by omega), if_neg (by omega), List.getElem?_eq_none (by omega)]
     rw [e] at hk
     exact hk _ (z.upW _ _ (by omega)))
  · refine ok_containsAtom facts _ r.atom _ ((hf.mono z.inc).lay _ _) hfs _ (fun h' x => ?_)
    (( skip); replace z := z.overW x (by (try simp only [lsz]); omega); (try replace q0 := q0.over x); rw [lay_nil h'])
    have e : r.body = [] := List.length_eq_zero_iff.1 (by omega)
    have hr : rightD cl facts r = decide (r.atom ∈ facts) := by
      unfold rightD
      rw [hg, Bool.true_and, if_pos (by omega), e]
      simp only [decide_true, Bool.true_and]
    rw [hr] at hk
    cases hm : decide (r.atom ∈ facts)
    all_goals
      rw [hm] at hk
      repeat' ( simp -implicitDefEqProofs only [syms, symx, seval, c21])
      exact hk _ (z.upW _ _ (by omega))
  obtain ⟨y, hy, hy'⟩ := amElem (l := cl) (i := r.clause.toNat) (by omega)
  have hr : rightD cl facts r = instD y r.atom r.body := by
    unfold rightD
    rw [hg, Bool.true_and, if_neg (by omega), if_neg (by omega), hy']
  rw [hr] at hk
  have hcl : ((r.clause.toNat : Nat) : Int) = r.clause := by omega
  rw [hcl] at hy
  refine (drawN (by simp only [c21])) (z.upW _ _ (by omega)) ?_
  simp -implicitDefEqProofs only [syms, symx, seval, c21, q0.lay, ↓cut_re0, cell_re1, cell_re2, hvb, agg_atom, valE_atom]
  repeat' ((first | with_reducible_and_instances refine ixc_at (hc.mono z.inc) ds22 sz47 (by omega) hy (fun p bd hbd hp => ?_) | with_reducible_and_instances refine ldc hp ag47 sz47 ?_) <;> simp -implicitDefEqProofs only [syms, symx, seval, c21, q0.lay, ↓cut_re0, cell_re1, cell_re2, hvb, agg_atom, valE_atom])
  refine ok_inst y bd r.atom b r.body _ (hbd.lay _ _) ((hb.mono z.inc).lay _ _) hs _ (fun h' x => ?_)
  (( ((with_reducible refine KOpsX_call ?_ ?_ ?_); (· exact (by (try simp only [lsz]); have := z.size; omega)); (·  exact x )) ); replace z := z.overW x (by (try simp only [lsz]); omega); rw [lay_nil h'])
  cases hi : instD y r.atom r.body
  all_goals
    rw [hi] at hk
    repeat' (first | simp -implicitDefEqProofs only [syms, symx, seval, c21] | ((with_reducible refine ⟨z.grw.lay _ _, ?_⟩); (intro _ h' zz x _); (try simp only [lay_lay, List.append_nil] at x); (replace z := zz); (clear zz); rw [lay_nil h']))
    exact hk _ (z.upW _ _ (by omega))
end Go.Proofs.Ytompindebndddaa
