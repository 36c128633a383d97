/- Walks: bindings: may they be Written out by fill2.py. No condition. -/
import Derived.Test.YtemapihoobmonaaGreatDoorG21
namespace Go.Proofs.YtemapihoobmonaaGreatDoor
open Go.Am
set_option linter.unusedSimpArgs false
set_option linter.unusedVariables false
set_option maxRecDepth 100000
set_option maxHeartbeats 0
theorem zsK {I : Nat → Env → Heap → Prop} {m : Nat} {Q : Ex → Env → Heap → Prop} {x : Ex} {e : Env} {h0 h1 : Heap} {bs : List Blk} {w : Nat} (z : Ext h0 (h1.lay bs w)) (hk : ∀ H, Ext h0 H → zmf I m Q x e (H.lay [] H.low)) : zmf I m Q x e (h1.lay bs w) := by
  have := hk _ z
  rwa [← zaa] at this
theorem zoT (l : List BindD) (v : Value) (h : Heap) (hl : Sl Rep.bind h v l) (hs : l.length ≤ 1000) (K : Value → Heap → Prop)
    (hk : ∀ h' e, Ext h h' → (e = 0 ↔ ChkD l) → K (.int .i64 e) h') : Ok Tryz.prog tab ov 129 [v] h K := by
  rw [zaa h]
  have z := Ext.refl h
  refine Ok.into rfl ztH (zaB N129) rfl (m := 36) rfl ?_
  repeat' ( simp -implicitDefEqProofs only [syms, symx, seval, c129])
  refine zpf l _ _ (hl.lay _ _) hs _ (fun h' b x hb => ?_)
  ((skip); replace z := z.overW x (by (try simp only [lsz]); omega); rw [zaa h'])
  cases b
  · repeat' (first | simp -implicitDefEqProofs only [syms, symx, seval, c129] | ((with_reducible_and_instances apply zaf); (· rfl)))
    refine hk _ _ ?_ ?_
    · exact z.upW _ _ (by omega)
    · exact ⟨fun hh => absurd hh (by decide), fun hh => absurd (hb.2 hh.1) (by simp)⟩
  have hR := hb.1 rfl
  simp -implicitDefEqProofs only [syms, symx, seval, c129]
  repeat' ((first | with_reducible_and_instances refine zcc (hl.mono z.inc) ds36 ?_ | ((with_reducible_and_instances apply zaf); (· rfl))) <;> simp -implicitDefEqProofs only [syms, symx, seval, c129])
  obtain ⟨I1, hI1⟩ : ∃ I : Nat → Env → Heap → Prop, I = (fun n e h' => ∃ (i : Nat) (h1 : Heap), h' = h1.lay [] h1.low ∧ Ext h h1 ∧ (n = l.length - i ∧ i ≤ l.length ∧ ∀ b ∈ l.take i, b.term.s ≠ ⟨#[]⟩ ∧ ¬ (b.term.v = true ∧ (zaF l b.term.s).2 = true)) ∧ ∃ J : Nat → Value, e = (v :: jr J 1 9 (v :: .int .i64 l.length :: .int .i64 i :: jr J 13 24 ([])))) := ⟨_, rfl⟩
  refine zas I1 _ (by rw [hI1]; exact ⟨0, _, rfl, z, ⟨rfl, by omega, by simp⟩, junk (by kernel_rfl)⟩) ?_
  intro n e h' hin
  rw [hI1] at hin
  obtain ⟨i, h1', rfl, z, hinv, J, rfl⟩ := hin
  obtain ⟨rfl, hi, hall⟩ := hinv
  have hw : IntKind.i64.wrap ((i : Int) + 1) = ((i + 1 : Nat) : Int) := by rw [zae (by omega) (by omega)]; omega
  simp -implicitDefEqProofs only [syms, symx, seval, c129]
  refine zaw (fun hlt => ?_) (fun hlt => ?_)
  rotate_left
  · simp -implicitDefEqProofs only [syms, symx, seval, c129]
    rw [List.take_of_length_le (by omega)] at hall
    exact hk _ _ (z.upW _ _ (by omega)) ⟨fun _ => ⟨hR, hall⟩, fun _ => rfl⟩
  obtain ⟨r, hr, hr'⟩ := za5 (l := l) (i := i) hlt
  have hmem := List.mem_of_getElem? hr'
  rcases hg : zaF l r.term.s with ⟨⟨tv, ts⟩, pb⟩
  simp -implicitDefEqProofs only [syms, symx, seval, c129]
  repeat' ((first | with_reducible_and_instances refine zhO (hl.mono z.inc) ds36 zfv (by omega) hr (fun p hp => ?_) | with_reducible_and_instances refine ldb hp zw5 zfv ?_) <;> simp -implicitDefEqProofs only [syms, symx, seval, c129, zaP, zaC, List.all_cons, List.all_nil, Am.one, Bool.and_true, Bool.true_and, Bool.and_self, List.set_cons_zero, List.set_cons_succ, st4, st3, st9, st23, st26, st29, zcj, BindD.val, BindD.cells])
  refine zk5 l _ r.term.s _ (hl.mono (z.upW _ _ (by omega)).inc) hs _ (fun h' x => ?_)
  rw [hg]
  have q0 := Holds.top (i := 0) x rfl
  ((skip); replace z := z.overW x (by (try simp only [lsz]); omega); rw [zaa h'])
  simp -implicitDefEqProofs only [syms, symx, seval, c129, q0.lay, TermD.val, TermD.cells]
  repeat' ((first | ((with_reducible  apply zaw ) <;> intro _) | with_reducible refine ziZ (fun _ => ?_) (fun _ => ?_)) <;> simp -implicitDefEqProofs only [syms, symx, seval, c129, zaP, zaC, List.all_cons, List.all_nil, Am.one, Bool.and_true, Bool.true_and, Bool.and_self, List.set_cons_zero, List.set_cons_succ, st4, st3, st9, st23, st26, st29, zcj, q0.lay, TermD.val, TermD.cells])
  all_goals first
    | ((with_reducible refine hk _ _ ?_ ?_); (· exact z.upW _ _ (by omega)); (· refine ⟨fun hh => absurd hh (by decide), fun hh => ?_⟩; have hbad := hh.2 r hmem; rw [hg] at hbad; clear hI1; exfalso; simp_all))
    | (rw [hw]; (refine zsK (z.upW _ _ (by omega)) (fun H z => ?_)); (rw [hI1]; with_reducible refine zac (m := _) ?_ ⟨i + 1, _, rfl, z, ⟨rfl, by omega, zbp (i := i) (P := fun b : BindD => b.term.s ≠ ⟨#[]⟩ ∧ ¬ (b.term.v = true ∧ (zaF l b.term.s).2 = true)) hr' hall (by rw [hg]; simp_all)⟩, junk (by kernel_rfl)⟩; omega))
theorem znu (l : List BindD) (v : Value) (t : TermD) (h : Heap) (hl : Sl Rep.bind h v l) (hs : l.length ≤ 1000) (K : Value → Heap → Prop)
    (hk : ∀ h', Ext h h' → K (zbD l t).val h') : Ok Tryz.prog tab ov 96 [v, t.val] h K := by
  rw [zaa h]
  have z := Ext.refl h
  rcases hg : zaF l t.s with ⟨⟨tv, ts⟩, pb⟩
  unfold zbD at hk
  rw [hg] at hk
  refine Ok.into rfl zvV (zaB N96) rfl (m := 19) rfl ?_
  simp -implicitDefEqProofs only [syms, symx, seval, c96, TermD.val, TermD.cells]
  repeat' ((first | ((with_reducible first | apply zaw | apply zdA | apply zg4 | apply zgU | apply zgt) <;> intro _)) <;> simp -implicitDefEqProofs only [syms, symx, seval, c96, zaP, zaC, List.all_cons, List.all_nil, Am.one, Bool.and_true, Bool.true_and, Bool.and_self, List.set_cons_zero, List.set_cons_succ, st4, st3, st9, st23, st26, st29, zcj, TermD.val, TermD.cells])
  refine zk5 l _ t.s _ (hl.lay _ _) hs _ (fun h' x => ?_)
  rw [hg]
  have q0 := Holds.top (i := 0) x rfl
  have q1 := Holds.top (i := 1) x rfl
  ((skip); replace z := z.overW x (by (try simp only [lsz]); omega); rw [zaa h'])
  have hz := z.size
  simp -implicitDefEqProofs only [syms, symx, seval, c96, q0.lay, TermD.val, TermD.cells]
  repeat' (( with_reducible refine ziZ (fun _ => ?_) (fun _ => ?_)) <;> simp -implicitDefEqProofs only [syms, symx, seval, c96, zaP, zaC, List.all_cons, List.all_nil, Am.one, Bool.and_true, Bool.true_and, Bool.and_self, List.set_cons_zero, List.set_cons_succ, st4, st3, st9, st23, st26, st29, zcj, q0.lay, TermD.val, TermD.cells])
  all_goals
    refine zfH q1 sz23 rfl rfl rfl (fun h2' q1' c => ?_)
    replace z := (z.upW _ _ (by omega)).step c (by omega)
    rw [zaa h2']
    simp -implicitDefEqProofs only [syms, symx, seval, c96, q1'.lay]
    simp only [*, and_self, and_false, false_and, Bool.false_eq_true, if_true, if_false] at hk
    exact hk _ (z.upW _ _ (by omega))
theorem zxM (b : BindD) (h : Heap) (K : Value → Heap → Prop)
    (hk : ∀ h', Ext h h' → K (.bool (ownD b)) h') : Ok Tryz.prog tab ov 170 [b.val] h K := by
  rw [zaa h]
  have z := Ext.refl h
  unfold ownD at hk
  refine Ok.into rfl zsd (zaB N170) rfl (m := 13) rfl ?_
  simp -implicitDefEqProofs only [syms, symx, seval, c170, BindD.val, BindD.cells]
  repeat' ((first | ((with_reducible  apply zaw ) <;> intro _) | with_reducible refine ziZ (fun _ => ?_) (fun _ => ?_)) <;> simp -implicitDefEqProofs only [syms, symx, seval, c170, BindD.val, BindD.cells])
  all_goals
    simp only [*, decide_true, decide_false, Bool.and_self, Bool.and_false, Bool.false_and] at hk
    exact hk _ (z.upW _ _ (by omega))
theorem zwB {P : Program} {T : Tab} {t : TypeId} {a b : ByteArray} : binA P T .gtr t (.string a) (.string b) = some (.bool (slt b a)) := by
  refine zfc rfl ?_ rfl
  have e : slt b a = !(slt a b || (a.toList == b.toList)) := by
    rw [zbk, zbk, zmd]
    cases h1 : slt a b
    · cases h2 : slt b a
      · have := zmm h1 h2
        simp [this]
      · have : a ≠ b := fun hh => by subst hh; rw [zgC] at h2; cases h2
        simp [this]
    · cases h2 : slt b a
      · rfl
      · have := zew h1 h2
        rw [zgC] at this
        cases this
  rw [e]
  unfold Op.stringOp slt
  simp only [zbk]
  rfl
theorem zuM (l : List BindD) (v : Value) (b : BindD) (i : Nat) (A B : Nat) (h : Heap) (hl : Sl Rep.bind h v l) (hs : l.length ≤ 1000) (hi : i < l.length) (q0 : Holds h A (.row [v] 36 false)) (q1 : Holds h B (.row b.cells 141 false)) (K : Value → Heap → Prop)
    (hk : ∀ h', Ext h h' → K (.bool (match l[i]? with | some x => slt b.var x.var | none => false)) h') : Ok Tryz.prog tab ov 193 [.int .i64 i, .pointer (some ⟨A, 0, none⟩), .pointer (some ⟨B, 0, none⟩)] h K := by
  rw [zaa h]
  have z := Ext.refl h
  obtain ⟨r, hr, hr'⟩ := za5 (l := l) (i := i) (by omega)
  rw [hr'] at hk
  unfold BindD.cells at q1
  refine Ok.into rfl ztZ (zaB N193) rfl (m := 10) rfl ?_
  simp -implicitDefEqProofs only [syms, symx, seval, c193]
  repeat' ((first | with_reducible_and_instances refine zhO (hl.mono z.inc) ds36 zfv (by omega) hr (fun p hp => ?_) | with_reducible_and_instances refine fdb0 hp zdm (fun q hq => ?_) | with_reducible_and_instances refine zd9 hq ag9 ?_ | with_reducible refine zbP (by simp only [c193]) (z.upW _ _ (by omega)) ?_ | ((with_reducible refine ⟨z.grw.lay _ _, ?_⟩); (intro _ h' zz x _); (try simp only [zap, List.append_nil] at x); (replace z := zz); (clear zz); rw [zaa h'])) <;> simp -implicitDefEqProofs only [syms, symx, seval, c193, q0.lay, q1.lay, zwB, zoL])
  exact hk _ (z.upW _ _ (by omega))
theorem zvd (b : BindD) (h : Heap) : zaG tab 36 1 [(0, b.val)] h = some (.slice (some ⟨h.size, 0, none⟩) 1 1, h.push (.row b.cells 141 false)) := by kernel_rfl
theorem zvD (b : BindD) : cut b.cells 0 3 = some b.cells := rfl
theorem zuj (b : BindD) : Value.agg b.cells.toArray = b.val := rfl
theorem zqM (b : BindD) : b.val.cells.toList = b.cells := rfl
theorem zk6 (b : BindD) (h : Heap) (K : Value → Heap → Prop) : valE (some b.val) h K = K b.val h := rfl
theorem zum : ze6 tab 36 36 = true := by kernel_rfl
theorem zlY (b : BindD) (z0 z1 z2 : Value) : zdS (fun i => some (i * 3, 3)) [z0, z1, z2] [(0, b.val)] = some b.cells := rfl
theorem zuU (s : ByteArray) (t : TermD) : zdk tab 141 [(0, .string s), (1, t.val)] = some (BindD.val ⟨s, t⟩) := by kernel_rfl
theorem zuw (l m : List BindD) (v u : Value) (h : Heap) (hl : Sl Rep.bind h v l) (hm : Sl Rep.bind h u m) (hs : l.length ≤ 1000) (hms : m.length ≤ 1000) (K : Value → Heap → Prop)
    (hk : ∀ h' w, Ext h h' → Sl Rep.bind h' w (zdx l m) → K w h') : Ok Tryz.prog tab ov 172 [v, u] h K := by
  rw [zaa h]
  have z := Ext.refl h
  refine Ok.into rfl zsF (zaB N172) rfl (m := 24) rfl ?_
  simp -implicitDefEqProofs only [syms, symx, seval, c172]
  repeat' (( with_reducible_and_instances refine zcc (hl.mono z.inc) ds36 ?_) <;> simp -implicitDefEqProofs only [syms, symx, seval, c172])
  obtain ⟨I1, hI1⟩ : ∃ I : Nat → Env → Heap → Prop, I = (fun n e h' => ∃ (i : Nat) (w : Value) (A : Nat) (h1 : Heap), h' = h1.lay [] h1.low ∧ Ext h h1 ∧ (n = l.length - i ∧ i ≤ l.length ∧ Ow Rep.bind h h1 141 A w (zdx (l.take i) m)) ∧ ∃ J : Nat → Value, e = (v :: u :: jr J 2 3 (w :: jr J 6 2 (v :: .int .i64 l.length :: .int .i64 i :: jr J 11 15 ([]))))) := ⟨_, rfl⟩
  refine zas I1 _ (by rw [hI1]; exact ⟨0, .slice none 0 0, h.size, _, rfl, z, ⟨rfl, by omega, Ow.nil (Nat.le_refl _)⟩, junk (by kernel_rfl)⟩) ?_
  intro n e h' hin
  rw [hI1] at hin
  obtain ⟨i, w, A, h1', rfl, z, hinv, J, rfl⟩ := hin
  obtain ⟨rfl, hi, ho⟩ := hinv
  have hw : IntKind.i64.wrap ((i : Int) + 1) = ((i + 1 : Nat) : Int) := by rw [zae (by omega) (by omega)]; omega
  have hz := z.size
  simp -implicitDefEqProofs only [syms, symx, seval, c172]
  refine zaw (fun hlt => ?_) (fun hlt => ?_)
  rotate_left
  · repeat' ( simp -implicitDefEqProofs only [syms, symx, seval, c172])
    rw [List.take_of_length_le (by omega)] at ho
    exact hk _ _ (z.upW _ _ (by omega)) ((ho.sl (by decide)).lay _ _)
  obtain ⟨r, hr, hr'⟩ := za5 (l := l) (i := i) hlt
  have hlt2 := ho.lt
  simp -implicitDefEqProofs only [syms, symx, seval, c172]
  repeat' ((first | with_reducible_and_instances refine zhO (hl.mono z.inc) ds36 zfv (by omega) hr (fun p hp => ?_) | with_reducible_and_instances refine ldb hp zw5 zfv ?_) <;> simp -implicitDefEqProofs only [syms, symx, seval, c172, zaP, zaC, List.all_cons, List.all_nil, Am.one, Bool.and_true, Bool.true_and, Bool.and_self, List.set_cons_zero, List.set_cons_succ, st4, st3, st9, st23, st26, st29, zcj, BindD.val, BindD.cells])
  refine (zbP (by simp only [c172])) (z.upW _ _ (by omega)) ?_
  repeat' ( simp -implicitDefEqProofs only [syms, symx, seval, c172, BindD.val, BindD.cells])
  refine znu m u r.term _ ((hm.mono z.inc).lay _ _) hms _ (fun h' x => ?_)
  (( ((with_reducible refine zar ?_ ?_ ?_); (· exact (by (try simp only [lsz]); have := z.size; omega)); (·  exact x )) ); replace z := z.overW x (by (try simp only [lsz]); omega); (try replace ho := ho.over x); rw [zaa h'])
  simp -implicitDefEqProofs only [syms, symx, seval, c172, zuU, zk6, zlY]
  refine zbg (by have := z.size; omega) (by omega) ?_
  simp -implicitDefEqProofs only [syms, symx, seval, c172, za2, zum]
  have hlen : (zdx (l.take i) m).length ≤ 1000 := by unfold zdx; rw [List.length_map, List.length_take]; omega
  have hHs : (h'.lay [Blk.row (BindD.cells ⟨r.var, zbD m r.term⟩) 141 false] (h'.size + 1)).size = h'.size + 1 := by rw [zad]; rfl
  have hzz := z.size
  obtain ⟨hs1, hsr1⟩ := zdn (A := A) (r := Rep.bind) (c := 1) (y := ⟨r.var, zbD m r.term⟩) (by decide) (show (h'.lay [Blk.row (BindD.cells ⟨r.var, zbD m r.term⟩) 141 false] (h'.size + 1)).get (h'.size + 0) = some (.row (BindD.cells ⟨r.var, zbD m r.term⟩) 141 false) by rw [zaR]; rfl) rfl
  obtain ⟨w', h'', A'', e1, e2, e3, e4, e5⟩ := zdz (t := 36) ds36 zcr rfl (by decide) (by rw [hHs]; omega) (ho.mono (Inc.lay _ _ _)) hs1 hsr1 (by omega) (by omega)
  have hfA := ho.fresh
  rw [e1]
  simp -implicitDefEqProofs only [syms, symx, seval, c172]
  refine zbf (A := A) (by kernel_rfl) (by rw [zad]; omega) (by omega) (by simpa only [zap, zad, List.append_nil, List.length_cons, List.length_nil, Nat.zero_add] using e3) ?_
  replace z := (z.upW [Blk.row (BindD.cells ⟨r.var, zbD m r.term⟩) 141 false] (h'.size + 1) (by omega)).step e3 hfA
  have htk : zdx (l.take (i + 1)) m = zdx (l.take i) m ++ [⟨r.var, zbD m r.term⟩] := by rw [List.take_add_one, hr']; unfold zdx; rw [List.map_append]; rfl
  rw [← htk] at e2
  clear ho
  rw [zaa h'']
  repeat' (first | simp -implicitDefEqProofs only [syms, symx, seval, c172] | ((with_reducible refine ⟨z.grw.lay _ _, ?_⟩); (intro _ h' zz x _); (try simp only [zap, List.append_nil] at x); (try replace e2 := e2.over x); (replace z := zz); (clear zz); rw [zaa h']))
  rw [hw]
  (rw [hI1]; with_reducible refine zac (m := _) ?_ ⟨i + 1, _, _, _, rfl, z, ⟨rfl, by omega, e2⟩, junk (by kernel_rfl)⟩; omega)
theorem zrW (s xs : ByteArray) (xv : Bool) : zdk tab 141 [(0, .string s), (1, .agg ⟨[.bool xv, .string xs]⟩)] = some (.agg ⟨[.string s, .bool xv, .string xs]⟩) := by kernel_rfl
theorem zwu {e : Int} {h : Heap} {K : Value → Heap → Prop} (h1 : e ≠ 0 → K (.bool true) h) (h2 : e = 0 → K (.bool false) h) : zgg (e != 0) h K := by
  refine ⟨fun hh => h1 (by simpa using hh), fun hh => h2 (by simpa using hh)⟩
theorem zuB {h : Heap} {v : Value} {l : List BindD} (f : Sl Rep.bind h v l) : ∃ b : Bool, binA Tryz.prog tab .eql 36 v (.slice none 0 0) = some (.bool b) ∧ (b = true → l = []) := by
  rcases f with ⟨rfl, rfl⟩ | ⟨A, o, c, row, u, ro, rfl, _⟩
  · exact ⟨true, by kernel_rfl, fun _ => rfl⟩
  · exact ⟨false, by kernel_rfl, nofun⟩
theorem zt1 {h : Heap} {b : BindD} {u : TypeId} {ro : Bool} {w : Nat} : Sl Rep.bind (h.lay [.row b.cells u ro] w) (.slice (some ⟨h.size + 0, 0, none⟩) 1 1) [b] := by
  refine .inr ⟨h.size + 0, 0, 1, b.cells, u, ro, rfl, (by show 1 ≤ maxLen; decide), .inl ⟨by decide, Nat.le_refl _⟩, by rw [zad]; simp, by rw [zaR]; rfl, fun i x hx => ?_⟩
  cases i with
  | zero =>
    simp at hx
    subst hx
    exact ⟨_, rfl, rfl⟩
  | succ i => simp at hx
theorem zmp (l : List BindD) (b : BindD) : (zeL l b).length = l.length + 1 := by
  unfold zeL
  rw [List.length_append, List.length_cons, ← Nat.add_assoc, ← List.length_append, List.takeWhile_append_dropWhile]
theorem zgZ {l m : List BindD} {s : ByteArray} {t : TermD} (h : zgA l s t = some m) : m.length = l.length + 1 := by
  unfold zgA at h
  split at h
  · cases h
  split at h
  · cases h
  split at h
  · cases h
  split at h
  · cases h
  · cases h
    rw [zmp]
    unfold zdx
    rw [List.length_map]
theorem zpn (a : AtomD) : zaD Tryz.prog (do let y ← Instr.index 24 (.agg ⟨a.argCells⟩) (.int .i64 0); pure (Next.value y)) = some (.value (a.arg 0).val) := by kernel_rfl
theorem zpL (a : AtomD) : zaD Tryz.prog (do let y ← Instr.index 24 (.agg ⟨a.argCells⟩) (.int .i64 1); pure (Next.value y)) = some (.value (a.arg 1).val) := by kernel_rfl
theorem zpO (a : AtomD) : zaD Tryz.prog (do let y ← Instr.index 24 (.agg ⟨a.argCells⟩) (.int .i64 2); pure (Next.value y)) = some (.value (a.arg 2).val) := by kernel_rfl
theorem zpy (a : AtomD) : zaD Tryz.prog (do let y ← Instr.index 24 (.agg ⟨a.argCells⟩) (.int .i64 3); pure (Next.value y)) = some (.value (a.arg 3).val) := by kernel_rfl
theorem zrp (a : AtomD) (k : Nat) (h : k < 4) : zaD Tryz.prog (do let y ← Instr.index 24 (.agg ⟨a.argCells⟩) (.int .i64 k); pure (Next.value y)) = some (.value (a.arg k).val) := by
  have : k = 0 ∨ k = 1 ∨ k = 2 ∨ k = 3 := by omega
  rcases this with rfl | rfl | rfl | rfl
  · exact zpn a
  · exact zpL a
  · exact zpO a
  · exact zpy a
theorem zms {d : Option Tmp} {ty : TypeId} {pos : String} {af : Array Edge} {g : Option (Nat × Bool)} {x i : Operand} {e : Env} {h : Heap} {K : Value → Heap → Prop} {a : AtomD} {k : Nat} (hk4 : k < 4) (hx : zab e x = .agg ⟨a.argCells⟩) (hi : zab e i = .int .i64 k)
    (hK : K (a.arg k).val h) : optE (zaN Tryz.prog e ⟨d, .index 24 x i, ty, pos, af, g⟩ h) K := by
  have : zaN Tryz.prog e ⟨d, .index 24 x i, ty, pos, af, g⟩ h = some ((a.arg k).val, h) := by
    unfold zaN
    have hp : plain (.agg ⟨a.argCells⟩) = true := rfl
    have hp2 : plain (.int .i64 (k : Int)) = true := rfl
    rw [if_pos (by simp [Op.operands, hx, hi, hp, hp2])]
    have : zaD Tryz.prog (execOp (zab e) ⟨d, .index 24 x i, ty, pos, af, g⟩) = some (.value (a.arg k).val) := by
      simp only [execOp, hx, hi]
      exact zrp a k hk4
    rw [this]
    rfl
  rw [this]
  exact hK
theorem zvj (a b : AtomD) (h : Heap) (K : Value → Heap → Prop)
    (hk : ∀ h', Ext h h' → K (.bool (zce a b)) h') : Ok Tryz.prog tab ov 130 [a.val, b.val] h K := by
  rw [zaa h]
  have z := Ext.refl h
  refine Ok.into rfl zsB (zaB N130) rfl (m := 32) rfl ?_
  simp -implicitDefEqProofs only [syms, symx, seval, c130, AtomD.val, AtomD.cells]
  repeat' (( ((with_reducible first | apply zaw | apply zdA ) <;> intro _)) <;> simp -implicitDefEqProofs only [syms, symx, seval, c130, AtomD.val, AtomD.cells])
  all_goals first
    | (have e : zce a b = true := by
         unfold zce
         simp only [Bool.and_eq_true, decide_eq_true_eq]
         refine ⟨?_, ?_, ?_, ?_, ?_⟩ <;> first | assumption | omega
       rw [e] at hk
       exact hk _ (z.upW _ _ (by omega)))
    | (have e : zce a b = false := by
         cases he : zce a b
         · rfl
         · exfalso
           unfold zce at he
           simp only [Bool.and_eq_true, decide_eq_true_eq] at he
           obtain ⟨e1, e2, e3, e4, e5⟩ := he
           first | contradiction | omega
       rw [e] at hk
       exact hk _ (z.upW _ _ (by omega)))
theorem zg1 {p g : AtomD} {l : List BindD} {k m : Nat} (h : zbY p g k l = none) (hkm : k ≤ m) : zbY p g m l = none := by
  induction m with
  | zero =>
    have : k = 0 := by omega
    subst this
    exact h
  | succ m ih =>
    by_cases he : k = m + 1
    · subst he; exact h
    · unfold zbY
      rw [ih (by omega)]
      rfl
theorem zdC {I : Nat → Env → Heap → Prop} {m : Nat} {Q : Ex → Env → Heap → Prop} {x : Ex} {e : Env} {h0 h1 : Heap} {bs : List Blk} {w : Nat} (z : Ext h0 (h1.lay bs w)) (hk : ∀ H, Ext h0 H → (∀ A b, Holds h1 A b → Holds H A b) → Inc h1 H → zmf I m Q x e (H.lay [] H.low)) : zmf I m Q x e (h1.lay bs w) := by
  have := hk _ z (fun A b q => q.on bs w) (Inc.lay _ _ _)
  rwa [← zaa] at this
theorem zxf (a : AtomD) : a.cells[2]? = some (.int .i64 a.n) := rfl
theorem zmn (a : AtomD) : cut a.cells 3 8 = some a.argCells := rfl
theorem znB (a : AtomD) (k : Nat) (hk : k < 4) : cut a.cells (3 + k * 2) 2 = some (a.arg k).cells := by
  have : k = 0 ∨ k = 1 ∨ k = 2 ∨ k = 3 := by omega
  rcases this with rfl | rfl | rfl | rfl <;> rfl
end Go.Proofs.YtemapihoobmonaaGreatDoor
