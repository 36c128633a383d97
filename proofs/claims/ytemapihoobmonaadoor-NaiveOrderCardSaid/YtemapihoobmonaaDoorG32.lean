/- Walks: bindings: may they be Written out by fill2.py. No condition. -/
import Derived.Test.YtemapihoobmonaaDoorG24
namespace Go.Proofs.YtemapihoobmonaaDoor
open Go.Am
set_option linter.unusedSimpArgs false
set_option linter.unusedVariables false
set_option maxRecDepth 100000
set_option maxHeartbeats 0
theorem loop_heap {I : Nat → Env → Heap → Prop} {m : Nat} {Q : Ex → Env → Heap → Prop} {x : Ex} {e : Env} {h0 h1 : Heap} {bs : List Blk} {w : Nat} (z : Ext h0 (h1.lay bs w)) (hk : ∀ H, Ext h0 H → loopN I m Q x e (H.lay [] H.low)) : loopN I m Q x e (h1.lay bs w) := by
  have := hk _ z
  rwa [← lay_nil] at this
theorem ok_check (l : List BindD) (v : Value) (h : Heap) (hl : Sl Rep.bind h v l) (hs : l.length ≤ 1000) (K : Value → Heap → Prop)
    (hk : ∀ h' e, Ext h h' → (e = 0 ↔ ChkD l) → K (.int .i64 e) h') : Ok Tryd.prog tab ov 37 [v] h K := by
  rw [lay_nil h]
  have z := Ext.refl h
  refine Ok.into rfl tab_fn37 (bodyF N37) rfl (m := 36) rfl ?_
  repeat' ( simp -implicitDefEqProofs only [syms, symx, seval, c37])
  refine ok_rises l _ _ (hl.lay _ _) hs _ (fun h' b x hb => ?_)
  ((skip); replace z := z.overW x (by (try simp only [lsz]); omega); rw [lay_nil h'])
  cases b
  · repeat' (first | simp -implicitDefEqProofs only [syms, symx, seval, c37] | ((with_reducible_and_instances apply unop_not); (· rfl)))
    refine hk _ _ ?_ ?_
    · exact z.upW _ _ (by omega)
    · exact ⟨fun hh => absurd hh (by decide), fun hh => absurd (hb.2 hh.1) (by simp)⟩
  have hR := hb.1 rfl
  simp -implicitDefEqProofs only [syms, symx, seval, c37]
  repeat' ((first | with_reducible_and_instances refine ln_rule (hl.mono z.inc) ds51 ?_ | ((with_reducible_and_instances apply unop_not); (· rfl))) <;> simp -implicitDefEqProofs only [syms, symx, seval, c37])
  obtain ⟨I1, hI1⟩ : ∃ I : Nat → Env → Heap → Prop, I = (fun n e h' => ∃ (i : Nat) (h1 : Heap), h' = h1.lay [] h1.low ∧ Ext h h1 ∧ (n = l.length - i ∧ i ≤ l.length ∧ ∀ b ∈ l.take i, b.term.s ≠ ⟨#[]⟩ ∧ ¬ (b.term.v = true ∧ (subGet l b.term.s).2 = true)) ∧ ∃ J : Nat → Value, e = (v :: jr J 1 9 (v :: .int .i64 l.length :: .int .i64 i :: jr J 13 24 ([])))) := ⟨_, rfl⟩
  refine W_loopN I1 _ (by rw [hI1]; exact ⟨0, _, rfl, z, ⟨rfl, by omega, by simp⟩, junk (by kernel_rfl)⟩) ?_
  intro n e h' hin
  rw [hI1] at hin
  obtain ⟨i, h1', rfl, z, hinv, J, rfl⟩ := hin
  obtain ⟨rfl, hi, hall⟩ := hinv
  have hw : IntKind.i64.wrap ((i : Int) + 1) = ((i + 1 : Nat) : Int) := by rw [wrap_i64 (by omega) (by omega)]; omega
  simp -implicitDefEqProofs only [syms, symx, seval, c37]
  refine forkD (fun hlt => ?_) (fun hlt => ?_)
  rotate_left
  · simp -implicitDefEqProofs only [syms, symx, seval, c37]
    rw [List.take_of_length_le (by omega)] at hall
    exact hk _ _ (z.upW _ _ (by omega)) ⟨fun _ => ⟨hR, hall⟩, fun _ => rfl⟩
  obtain ⟨r, hr, hr'⟩ := amElem (l := l) (i := i) hlt
  have hmem := List.mem_of_getElem? hr'
  rcases hg : subGet l r.term.s with ⟨⟨tv, ts⟩, pb⟩
  simp -implicitDefEqProofs only [syms, symx, seval, c37]
  repeat' ((first | with_reducible_and_instances refine ixb_at (hl.mono z.inc) ds51 sz71 (by omega) hr (fun p hp => ?_) | with_reducible_and_instances refine ldb hp ag71 sz71 ?_) <;> simp -implicitDefEqProofs only [syms, symx, seval, c37, lay_set, storeO_row, List.all_cons, List.all_nil, Am.one, Bool.and_true, Bool.true_and, Bool.and_self, List.set_cons_zero, List.set_cons_succ, st4, st3, st9, st33, st36, st46, st71, BindD.val, BindD.cells])
  refine ok_get l _ r.term.s _ (hl.mono (z.upW _ _ (by omega)).inc) hs _ (fun h' x => ?_)
  rw [hg]
  have q0 := Holds.top (i := 0) x rfl
  ((skip); replace z := z.overW x (by (try simp only [lsz]); omega); rw [lay_nil h'])
  simp -implicitDefEqProofs only [syms, symx, seval, c37, q0.lay, TermD.val, TermD.cells]
  repeat' ((first | ((with_reducible  apply forkD ) <;> intro _) | with_reducible refine forkT (fun _ => ?_) (fun _ => ?_)) <;> simp -implicitDefEqProofs only [syms, symx, seval, c37, lay_set, storeO_row, List.all_cons, List.all_nil, Am.one, Bool.and_true, Bool.true_and, Bool.and_self, List.set_cons_zero, List.set_cons_succ, st4, st3, st9, st33, st36, st46, st71, q0.lay, TermD.val, TermD.cells])
  all_goals first
    | ((with_reducible refine hk _ _ ?_ ?_); (· exact z.upW _ _ (by omega)); (· refine ⟨fun hh => absurd hh (by decide), fun hh => ?_⟩; have hbad := hh.2 r hmem; rw [hg] at hbad; clear hI1; exfalso; simp_all))
    | (rw [hw]; (refine loop_heap (z.upW _ _ (by omega)) (fun H z => ?_)); (rw [hI1]; with_reducible refine loopN_normal (m := _) ?_ ⟨i + 1, _, rfl, z, ⟨rfl, by omega, take_all (i := i) (P := fun b : BindD => b.term.s ≠ ⟨#[]⟩ ∧ ¬ (b.term.v = true ∧ (subGet l b.term.s).2 = true)) hr' hall (by rw [hg]; simp_all)⟩, junk (by kernel_rfl)⟩; omega))
theorem ok_term (l : List BindD) (v : Value) (t : TermD) (h : Heap) (hl : Sl Rep.bind h v l) (hs : l.length ≤ 1000) (K : Value → Heap → Prop)
    (hk : ∀ h', Ext h h' → K (termD l t).val h') : Ok Tryd.prog tab ov 27 [v, t.val] h K := by
  rw [lay_nil h]
  have z := Ext.refl h
  rcases hg : subGet l t.s with ⟨⟨tv, ts⟩, pb⟩
  unfold termD at hk
  rw [hg] at hk
  refine Ok.into rfl tab_fn27 (bodyF N27) rfl (m := 19) rfl ?_
  simp -implicitDefEqProofs only [syms, symx, seval, c27, TermD.val, TermD.cells]
  repeat' ((first | ((with_reducible first | apply forkD | apply forkB | apply forkN | apply forkNP | apply forkNot) <;> intro _)) <;> simp -implicitDefEqProofs only [syms, symx, seval, c27, lay_set, storeO_row, List.all_cons, List.all_nil, Am.one, Bool.and_true, Bool.true_and, Bool.and_self, List.set_cons_zero, List.set_cons_succ, st4, st3, st9, st33, st36, st46, st71, TermD.val, TermD.cells])
  refine ok_get l _ t.s _ (hl.lay _ _) hs _ (fun h' x => ?_)
  rw [hg]
  have q0 := Holds.top (i := 0) x rfl
  have q1 := Holds.top (i := 1) x rfl
  ((skip); replace z := z.overW x (by (try simp only [lsz]); omega); rw [lay_nil h'])
  have hz := z.size
  simp -implicitDefEqProofs only [syms, symx, seval, c27, q0.lay, TermD.val, TermD.cells]
  repeat' (( with_reducible refine forkT (fun _ => ?_) (fun _ => ?_)) <;> simp -implicitDefEqProofs only [syms, symx, seval, c27, lay_set, storeO_row, List.all_cons, List.all_nil, Am.one, Bool.and_true, Bool.true_and, Bool.and_self, List.set_cons_zero, List.set_cons_succ, st4, st3, st9, st33, st36, st46, st71, q0.lay, TermD.val, TermD.cells])
  all_goals
    refine store_own q1 sz33 rfl rfl rfl (fun h2' q1' c => ?_)
    replace z := (z.upW _ _ (by omega)).step c (by omega)
    rw [lay_nil h2']
    simp -implicitDefEqProofs only [syms, symx, seval, c27, q1'.lay]
    simp only [*, and_self, and_false, false_and, Bool.false_eq_true, if_true, if_false] at hk
    exact hk _ (z.upW _ _ (by omega))
theorem ok_ownB (b : BindD) (h : Heap) (K : Value → Heap → Prop)
    (hk : ∀ h', Ext h h' → K (.bool (ownD b)) h') : Ok Tryd.prog tab ov 57 [b.val] h K := by
  rw [lay_nil h]
  have z := Ext.refl h
  unfold ownD at hk
  refine Ok.into rfl tab_fn57 (bodyF N57) rfl (m := 13) rfl ?_
  simp -implicitDefEqProofs only [syms, symx, seval, c57, BindD.val, BindD.cells]
  repeat' ((first | ((with_reducible  apply forkD ) <;> intro _) | with_reducible refine forkT (fun _ => ?_) (fun _ => ?_)) <;> simp -implicitDefEqProofs only [syms, symx, seval, c57, BindD.val, BindD.cells])
  all_goals
    simp only [*, decide_true, decide_false, Bool.and_self, Bool.and_false, Bool.false_and] at hk
    exact hk _ (z.upW _ _ (by omega))
theorem bin_sgt {P : Program} {T : Tab} {t : TypeId} {a b : ByteArray} : binA P T .gtr t (.string a) (.string b) = some (.bool (slt b a)) := by
  refine bin_str rfl ?_ rfl
  have e : slt b a = !(slt a b || (a.toList == b.toList)) := by
    rw [toList_data, toList_data, ba_beq]
    cases h1 : slt a b
    · cases h2 : slt b a
      · have := slt_total h1 h2
        simp [this]
      · have : a ≠ b := fun hh => by subst hh; rw [slt_irrefl] at h2; cases h2
        simp [this]
    · cases h2 : slt b a
      · rfl
      · have := slt_trans h1 h2
        rw [slt_irrefl] at this
        cases this
  rw [e]
  unfold Op.stringOp slt
  simp only [toList_data]
  rfl
theorem ok_with1 (l : List BindD) (v : Value) (b : BindD) (i : Nat) (A B : Nat) (h : Heap) (hl : Sl Rep.bind h v l) (hs : l.length ≤ 1000) (hi : i < l.length) (q0 : Holds h A (.row [v] 51 false)) (q1 : Holds h B (.row b.cells 71 false)) (K : Value → Heap → Prop)
    (hk : ∀ h', Ext h h' → K (.bool (match l[i]? with | some x => slt b.var x.var | none => false)) h') : Ok Tryd.prog tab ov 72 [.int .i64 i, .pointer (some ⟨A, 0, none⟩), .pointer (some ⟨B, 0, none⟩)] h K := by
  rw [lay_nil h]
  have z := Ext.refl h
  obtain ⟨r, hr, hr'⟩ := amElem (l := l) (i := i) (by omega)
  rw [hr'] at hk
  unfold BindD.cells at q1
  refine Ok.into rfl tab_fn72 (bodyF N72) rfl (m := 10) rfl ?_
  simp -implicitDefEqProofs only [syms, symx, seval, c72]
  repeat' ((first | with_reducible_and_instances refine ixb_at (hl.mono z.inc) ds51 sz71 (by omega) hr (fun p hp => ?_) | with_reducible_and_instances refine fdb0 hp fa71_0 (fun q hq => ?_) | with_reducible_and_instances refine ld_one hq ag9 ?_ | with_reducible refine drawN (by simp only [c72]) (z.upW _ _ (by omega)) ?_ | ((with_reducible refine ⟨z.grw.lay _ _, ?_⟩); (intro _ h' zz x _); (try simp only [lay_lay, List.append_nil] at x); (replace z := zz); (clear zz); rw [lay_nil h'])) <;> simp -implicitDefEqProofs only [syms, symx, seval, c72, q0.lay, q1.lay, bin_sgt, valE_any])
  exact hk _ (z.upW _ _ (by omega))
theorem bs1_bind (b : BindD) (h : Heap) : buildSliceA tab 51 1 [(0, b.val)] h = some (.slice (some ⟨h.size, 0, none⟩) 1 1, h.push (.row b.cells 71 false)) := by kernel_rfl
theorem cut_bind (b : BindD) : cut b.cells 0 3 = some b.cells := rfl
theorem agg_bind (b : BindD) : Value.agg b.cells.toArray = b.val := rfl
theorem cells_bind (b : BindD) : b.val.cells.toList = b.cells := rfl
theorem valE_bind (b : BindD) (h : Heap) (K : Value → Heap → Prop) : valE (some b.val) h K = K b.val h := rfl
theorem sty51 : srcTyA tab 51 51 = true := by kernel_rfl
theorem fill_bind (b : BindD) (z0 z1 z2 : Value) : fillA (fun i => some (i * 3, 3)) [z0, z1, z2] [(0, b.val)] = some b.cells := rfl
theorem bld_bind (s : ByteArray) (t : TermD) : buildA tab 71 [(0, .string s), (1, t.val)] = some (BindD.val ⟨s, t⟩) := by kernel_rfl
theorem ok_under (l m : List BindD) (v u : Value) (h : Heap) (hl : Sl Rep.bind h v l) (hm : Sl Rep.bind h u m) (hs : l.length ≤ 1000) (hms : m.length ≤ 1000) (K : Value → Heap → Prop)
    (hk : ∀ h' w, Ext h h' → Sl Rep.bind h' w (underD l m) → K w h') : Ok Tryd.prog tab ov 59 [v, u] h K := by
  rw [lay_nil h]
  have z := Ext.refl h
  refine Ok.into rfl tab_fn59 (bodyF N59) rfl (m := 24) rfl ?_
  simp -implicitDefEqProofs only [syms, symx, seval, c59]
  repeat' (( with_reducible_and_instances refine ln_rule (hl.mono z.inc) ds51 ?_) <;> simp -implicitDefEqProofs only [syms, symx, seval, c59])
  obtain ⟨I1, hI1⟩ : ∃ I : Nat → Env → Heap → Prop, I = (fun n e h' => ∃ (i : Nat) (w : Value) (A : Nat) (h1 : Heap), h' = h1.lay [] h1.low ∧ Ext h h1 ∧ (n = l.length - i ∧ i ≤ l.length ∧ Ow Rep.bind h h1 71 A w (underD (l.take i) m)) ∧ ∃ J : Nat → Value, e = (v :: u :: jr J 2 3 (w :: jr J 6 2 (v :: .int .i64 l.length :: .int .i64 i :: jr J 11 15 ([]))))) := ⟨_, rfl⟩
  refine W_loopN I1 _ (by rw [hI1]; exact ⟨0, .slice none 0 0, h.size, _, rfl, z, ⟨rfl, by omega, Ow.nil (Nat.le_refl _)⟩, junk (by kernel_rfl)⟩) ?_
  intro n e h' hin
  rw [hI1] at hin
  obtain ⟨i, w, A, h1', rfl, z, hinv, J, rfl⟩ := hin
  obtain ⟨rfl, hi, ho⟩ := hinv
  have hw : IntKind.i64.wrap ((i : Int) + 1) = ((i + 1 : Nat) : Int) := by rw [wrap_i64 (by omega) (by omega)]; omega
  have hz := z.size
  simp -implicitDefEqProofs only [syms, symx, seval, c59]
  refine forkD (fun hlt => ?_) (fun hlt => ?_)
  rotate_left
  · repeat' ( simp -implicitDefEqProofs only [syms, symx, seval, c59])
    rw [List.take_of_length_le (by omega)] at ho
    exact hk _ _ (z.upW _ _ (by omega)) ((ho.sl (by decide)).lay _ _)
  obtain ⟨r, hr, hr'⟩ := amElem (l := l) (i := i) hlt
  have hlt2 := ho.lt
  simp -implicitDefEqProofs only [syms, symx, seval, c59]
  repeat' ((first | with_reducible_and_instances refine ixb_at (hl.mono z.inc) ds51 sz71 (by omega) hr (fun p hp => ?_) | with_reducible_and_instances refine ldb hp ag71 sz71 ?_) <;> simp -implicitDefEqProofs only [syms, symx, seval, c59, lay_set, storeO_row, List.all_cons, List.all_nil, Am.one, Bool.and_true, Bool.true_and, Bool.and_self, List.set_cons_zero, List.set_cons_succ, st4, st3, st9, st33, st36, st46, st71, BindD.val, BindD.cells])
  refine (drawN (by simp only [c59])) (z.upW _ _ (by omega)) ?_
  repeat' ( simp -implicitDefEqProofs only [syms, symx, seval, c59, BindD.val, BindD.cells])
  refine ok_term m u r.term _ ((hm.mono z.inc).lay _ _) hms _ (fun h' x => ?_)
  (( ((with_reducible refine KOpsX_call ?_ ?_ ?_); (· exact (by (try simp only [lsz]); have := z.size; omega)); (·  exact x )) ); replace z := z.overW x (by (try simp only [lsz]); omega); (try replace ho := ho.over x); rw [lay_nil h'])
  simp -implicitDefEqProofs only [syms, symx, seval, c59, bld_bind, valE_bind, fill_bind]
  refine KOpsX_alloc (by have := z.size; omega) (by omega) ?_
  simp -implicitDefEqProofs only [syms, symx, seval, c59, w_append, sty51]
  have hlen : (underD (l.take i) m).length ≤ 1000 := by unfold underD; rw [List.length_map, List.length_take]; omega
  have hHs : (h'.lay [Blk.row (BindD.cells ⟨r.var, termD m r.term⟩) 71 false] (h'.size + 1)).size = h'.size + 1 := by rw [lay_size]; rfl
  have hzz := z.size
  obtain ⟨hs1, hsr1⟩ := src_row (A := A) (r := Rep.bind) (c := 1) (y := ⟨r.var, termD m r.term⟩) (by decide) (show (h'.lay [Blk.row (BindD.cells ⟨r.var, termD m r.term⟩) 71 false] (h'.size + 1)).get (h'.size + 0) = some (.row (BindD.cells ⟨r.var, termD m r.term⟩) 71 false) by rw [lay_get]; rfl) rfl
  obtain ⟨w', h'', A'', e1, e2, e3, e4, e5⟩ := app_ow (t := 51) ds51 tab_info71 rfl (by decide) (by rw [hHs]; omega) (ho.mono (Inc.lay _ _ _)) hs1 hsr1 (by omega) (by omega)
  have hfA := ho.fresh
  rw [e1]
  simp -implicitDefEqProofs only [syms, symx, seval, c59]
  refine KOpsX_chg (A := A) (by kernel_rfl) (by rw [lay_size]; omega) (by omega) (by simpa only [lay_lay, lay_size, List.append_nil, List.length_cons, List.length_nil, Nat.zero_add] using e3) ?_
  replace z := (z.upW [Blk.row (BindD.cells ⟨r.var, termD m r.term⟩) 71 false] (h'.size + 1) (by omega)).step e3 hfA
  have htk : underD (l.take (i + 1)) m = underD (l.take i) m ++ [⟨r.var, termD m r.term⟩] := by rw [List.take_add_one, hr']; unfold underD; rw [List.map_append]; rfl
  rw [← htk] at e2
  clear ho
  rw [lay_nil h'']
  repeat' (first | simp -implicitDefEqProofs only [syms, symx, seval, c59] | ((with_reducible refine ⟨z.grw.lay _ _, ?_⟩); (intro _ h' zz x _); (try simp only [lay_lay, List.append_nil] at x); (try replace e2 := e2.over x); (replace z := zz); (clear zz); rw [lay_nil h']))
  rw [hw]
  (rw [hI1]; with_reducible refine loopN_normal (m := _) ?_ ⟨i + 1, _, _, _, rfl, z, ⟨rfl, by omega, e2⟩, junk (by kernel_rfl)⟩; omega)
theorem bld_bind2 (s xs : ByteArray) (xv : Bool) : buildA tab 71 [(0, .string s), (1, .agg ⟨[.bool xv, .string xs]⟩)] = some (.agg ⟨[.string s, .bool xv, .string xs]⟩) := by kernel_rfl
theorem forkX {e : Int} {h : Heap} {K : Value → Heap → Prop} (h1 : e ≠ 0 → K (.bool true) h) (h2 : e = 0 → K (.bool false) h) : forkE (e != 0) h K := by
  refine ⟨fun hh => h1 (by simpa using hh), fun hh => h2 (by simpa using hh)⟩
theorem nil_bind {h : Heap} {v : Value} {l : List BindD} (f : Sl Rep.bind h v l) : ∃ b : Bool, binA Tryd.prog tab .eql 51 v (.slice none 0 0) = some (.bool b) ∧ (b = true → l = []) := by
  rcases f with ⟨rfl, rfl⟩ | ⟨A, o, c, row, u, ro, rfl, _⟩
  · exact ⟨true, by kernel_rfl, fun _ => rfl⟩
  · exact ⟨false, by kernel_rfl, nofun⟩
theorem sl_laidB {h : Heap} {b : BindD} {u : TypeId} {ro : Bool} {w : Nat} : Sl Rep.bind (h.lay [.row b.cells u ro] w) (.slice (some ⟨h.size + 0, 0, none⟩) 1 1) [b] := by
  refine .inr ⟨h.size + 0, 0, 1, b.cells, u, ro, rfl, (by show 1 ≤ maxLen; decide), .inl ⟨by decide, Nat.le_refl _⟩, by rw [lay_size]; simp, by rw [lay_get]; rfl, fun i x hx => ?_⟩
  cases i with
  | zero =>
    simp at hx
    subst hx
    exact ⟨_, rfl, rfl⟩
  | succ i => simp at hx
theorem withD_length (l : List BindD) (b : BindD) : (withD l b).length = l.length + 1 := by
  unfold withD
  rw [List.length_append, List.length_cons, ← Nat.add_assoc, ← List.length_append, List.takeWhile_append_dropWhile]
theorem bindD_length {l m : List BindD} {s : ByteArray} {t : TermD} (h : bindD l s t = some m) : m.length = l.length + 1 := by
  unfold bindD at h
  split at h
  · cases h
  split at h
  · cases h
  split at h
  · cases h
  split at h
  · cases h
  · cases h
    rw [withD_length]
    unfold underD
    rw [List.length_map]
theorem index_run0 (a : AtomD) : pureRun Tryd.prog (do let y ← Instr.index 34 (.agg ⟨a.argCells⟩) (.int .i64 0); pure (Next.value y)) = some (.value (a.arg 0).val) := by kernel_rfl
theorem index_run1 (a : AtomD) : pureRun Tryd.prog (do let y ← Instr.index 34 (.agg ⟨a.argCells⟩) (.int .i64 1); pure (Next.value y)) = some (.value (a.arg 1).val) := by kernel_rfl
theorem index_run2 (a : AtomD) : pureRun Tryd.prog (do let y ← Instr.index 34 (.agg ⟨a.argCells⟩) (.int .i64 2); pure (Next.value y)) = some (.value (a.arg 2).val) := by kernel_rfl
theorem index_run3 (a : AtomD) : pureRun Tryd.prog (do let y ← Instr.index 34 (.agg ⟨a.argCells⟩) (.int .i64 3); pure (Next.value y)) = some (.value (a.arg 3).val) := by kernel_rfl
theorem index_run (a : AtomD) (k : Nat) (h : k < 4) : pureRun Tryd.prog (do let y ← Instr.index 34 (.agg ⟨a.argCells⟩) (.int .i64 k); pure (Next.value y)) = some (.value (a.arg k).val) := by
  have : k = 0 ∨ k = 1 ∨ k = 2 ∨ k = 3 := by omega
  rcases this with rfl | rfl | rfl | rfl
  · exact index_run0 a
  · exact index_run1 a
  · exact index_run2 a
  · exact index_run3 a
theorem index_arg {d : Option Tmp} {ty : TypeId} {pos : String} {af : Array Edge} {g : Option (Nat × Bool)} {x i : Operand} {e : Env} {h : Heap} {K : Value → Heap → Prop} {a : AtomD} {k : Nat} (hk4 : k < 4) (hx : evalOperand e x = .agg ⟨a.argCells⟩) (hi : evalOperand e i = .int .i64 k)
    (hK : K (a.arg k).val h) : optE (pureOp Tryd.prog e ⟨d, .index 34 x i, ty, pos, af, g⟩ h) K := by
  have : pureOp Tryd.prog e ⟨d, .index 34 x i, ty, pos, af, g⟩ h = some ((a.arg k).val, h) := by
    unfold pureOp
    have hp : plain (.agg ⟨a.argCells⟩) = true := rfl
    have hp2 : plain (.int .i64 (k : Int)) = true := rfl
    rw [if_pos (by simp [Op.operands, hx, hi, hp, hp2])]
    have : pureRun Tryd.prog (execOp (evalOperand e) ⟨d, .index 34 x i, ty, pos, af, g⟩) = some (.value (a.arg k).val) := by
      simp only [execOp, hx, hi]
      exact index_run a k hk4
    rw [this]
    rfl
  rw [this]
  exact hK
theorem ok_alike (a b : AtomD) (h : Heap) (K : Value → Heap → Prop)
    (hk : ∀ h', Ext h h' → K (.bool (alikeD a b)) h') : Ok Tryd.prog tab ov 38 [a.val, b.val] h K := by
  rw [lay_nil h]
  have z := Ext.refl h
  refine Ok.into rfl tab_fn38 (bodyF N38) rfl (m := 32) rfl ?_
  simp -implicitDefEqProofs only [syms, symx, seval, c38, AtomD.val, AtomD.cells]
  repeat' (( ((with_reducible first | apply forkD | apply forkB ) <;> intro _)) <;> simp -implicitDefEqProofs only [syms, symx, seval, c38, AtomD.val, AtomD.cells])
  all_goals first
    | (have e : alikeD a b = true := by
         unfold alikeD
         simp only [Bool.and_eq_true, decide_eq_true_eq]
         refine ⟨?_, ?_, ?_, ?_, ?_⟩ <;> first | assumption | omega
       rw [e] at hk
       exact hk _ (z.upW _ _ (by omega)))
    | (have e : alikeD a b = false := by
         cases he : alikeD a b
         · rfl
         · exfalso
           unfold alikeD at he
           simp only [Bool.and_eq_true, decide_eq_true_eq] at he
           obtain ⟨e1, e2, e3, e4, e5⟩ := he
           first | contradiction | omega
       rw [e] at hk
       exact hk _ (z.upW _ _ (by omega)))
theorem placesD_none {p g : AtomD} {l : List BindD} {k m : Nat} (h : placesD p g k l = none) (hkm : k ≤ m) : placesD p g m l = none := by
  induction m with
  | zero =>
    have : k = 0 := by omega
    subst this
    exact h
  | succ m ih =>
    by_cases he : k = m + 1
    · subst he; exact h
    · unfold placesD
      rw [ih (by omega)]
      rfl
theorem loop_heapI {I : Nat → Env → Heap → Prop} {m : Nat} {Q : Ex → Env → Heap → Prop} {x : Ex} {e : Env} {h0 h1 : Heap} {bs : List Blk} {w : Nat} (z : Ext h0 (h1.lay bs w)) (hk : ∀ H, Ext h0 H → (∀ A b, Holds h1 A b → Holds H A b) → Inc h1 H → loopN I m Q x e (H.lay [] H.low)) : loopN I m Q x e (h1.lay bs w) := by
  have := hk _ z (fun A b q => q.on bs w) (Inc.lay _ _ _)
  rwa [← lay_nil] at this
theorem cut_n (a : AtomD) : a.cells[2]? = some (.int .i64 a.n) := rfl
theorem cut_args8 (a : AtomD) : cut a.cells 3 8 = some a.argCells := rfl
theorem cut_arg (a : AtomD) (k : Nat) (hk : k < 4) : cut a.cells (3 + k * 2) 2 = some (a.arg k).cells := by
  have : k = 0 ∨ k = 1 ∨ k = 2 ∨ k = 3 := by omega
  rcases this with rfl | rfl | rfl | rfl <;> rfl
end Go.Proofs.YtemapihoobmonaaDoor
