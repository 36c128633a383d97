/- Walks: bindings of their own: Am.one more, a copy, a variable zg6, a pattern and an atom. Written out by fill2.py. No condition. -/
import Derived.Test.YtemapihoobmonaaGreatDoorZM2
import Derived.Test.YtemapihoobmonaaGreatDoorG28
import Derived.Test.YtemapihoobmonaaGreatDoorG36
namespace Go.Proofs.YtemapihoobmonaaGreatDoor
open Go.Am
set_option linter.unusedSimpArgs false
set_option linter.unusedVariables false
set_option maxRecDepth 100000
set_option maxHeartbeats 0
theorem zve (l : List BindD) (v : Value) (b : BindD) (h : Heap) (hl : Sl Rep.bind h v l) (hs : l.length ≤ 1000) (hR : zcv l l.length) (K : Value → Heap → Prop)
    (hk : ∀ h' w, Ext h h' → OwE Rep.bind h h' 141 w (zeL l b) → K w h') : Ok Tryz.prog tab ov 171 [v, b.val] h K := by
  rw [zaa h]
  have z := Ext.refl h
  have hc : v.cells.toList = [v] := zcs hl
  have hva := zaH v
  refine Ok.into rfl ztX (zaB N171) rfl (m := 19) rfl ?_
  simp -implicitDefEqProofs only [syms, symx, seval, c171, hc, hva, zqM]
  repeat' (( with_reducible_and_instances refine zcc (hl.mono z.inc) ds36 ?_) <;> simp -implicitDefEqProofs only [syms, symx, seval, c171, hc, hva])
  refine zlV l.length hs _ (fun i => match l[i]? with | some x => slt b.var x.var | none => false) _ (fun i hc' K' hi xe hk' => ?_) _ (fun h2' i x hi hlo hhi => ?_)
  · rw [zjt]
    have xe' := z.overW xe (by (try simp only [zad, List.length_cons, List.length_nil]); omega)
    exact zuM l v b i _ _ hc' (hl.mono xe'.inc) hs hi (Holds.top (i := 0) xe rfl) (Holds.top (i := 1) xe rfl) K' hk'
  have q0 := Holds.top (i := 0) x rfl
  have q1 := Holds.top (i := 1) x rfl
  (replace z := z.overW x (by (try simp only [zad, List.length_cons, List.length_nil]); omega); rw [zaa h2'])
  have hw := zvi (b := b) hR hi hlo hhi
  rw [hw] at hk
  clear hlo hhi
  simp -implicitDefEqProofs only [syms, symx, seval, c171]
  refine (zbP (by simp only [c171])) (z.upW _ _ (by omega)) ?_
  simp -implicitDefEqProofs only [syms, symx, seval, c171, q0.lay, hva]
  repeat' (( with_reducible_and_instances refine zsM (hl.mono z.inc) ds36 zfv (by omega) (fun base hb => ?_)) <;> simp -implicitDefEqProofs only [syms, symx, seval, c171, q0.lay, q1.lay, hva, ↓zvD, zuj, zk6, zvd])
  simp -implicitDefEqProofs only [syms, symx, seval, c171, zlY]
  refine zbg (by have := z.size; omega) (by omega) ?_
  simp -implicitDefEqProofs only [syms, symx, seval, c171, za2, zum]
  have hz := z.size
  have hlen : (l.take i).length = i := by rw [List.length_take]; omega
  have hb' : Sl Rep.bind (h2'.lay [Blk.row b.cells 141 false] (h2'.size + 1)) (.slice base (l.take i).length (l.take i).length) (l.take i) := by rw [hlen]; exact hb.lay _ _
  obtain ⟨hs1, hsr1⟩ := zdn (A := (h2'.lay [Blk.row b.cells 141 false] (h2'.size + 1)).size) (r := Rep.bind) (c := 1) (y := b) (by decide) (show (h2'.lay [Blk.row b.cells 141 false] (h2'.size + 1)).get (h2'.size + 0) = some (.row b.cells 141 false) by rw [zaR]; rfl) rfl
  rw [zga (Nat.le_refl _)] at hsr1
  obtain ⟨w1, h', e1, o1, x⟩ := zpe (h0 := h) (t := 36) ds36 zcr rfl (by decide) (by rw [zad]; omega) hb' hs1 hsr1 (by omega) (by omega) (by omega)
  rw [hlen] at e1
  rw [e1]
  refine zar (by simp only [zad, List.length_cons, List.length_nil]; omega) (by simpa only [zap, zad, List.append_nil, List.length_cons, List.length_nil, Nat.zero_add] using x) ?_
  (( skip); replace z := z.overW x (by (try simp only [lsz]); omega); (try replace q0 := q0.over x); rw [zaa h'])
  simp -implicitDefEqProofs only [syms, symx, seval, c171, q0.lay, hva]
  repeat' (( with_reducible_and_instances refine zf4 (hl.mono z.inc) (by decide) ds36 zfv (by omega) (fun w2 hb2 => ?_)) <;> simp -implicitDefEqProofs only [syms, symx, seval, c171, q0.lay, hva])
  simp -implicitDefEqProofs only [syms, symx, seval, c171, za2, zum]
  have hHs : (h2'.lay [Blk.row b.cells 141 false] (h2'.size + 1)).size = h2'.size + 1 := by rw [zad]; rfl
  rw [hHs] at o1
  obtain ⟨news, hs2, hsr2⟩ := zis (A := h2'.size + 1) (h := h'.lay [] (h'.size + 0)) (r := Rep.bind) (by decide) (hb2.lay _ _) (fun cs y hr => hr)
  have hl3 : (l.take i ++ [b]).length = i + 1 := by rw [List.length_append, hlen]; rfl
  have hl4 : (l.drop i).length ≤ 1000 := by rw [List.length_drop]; omega
  have hzz := z.size
  obtain ⟨w3, h3, A3, e3, o3, c3, e4, e5⟩ := zdz (t := 36) ds36 zcr rfl (by decide) (by rw [zad]; omega) (o1.mono (Inc.lay _ _ _)) hs2 hsr2 (by rw [hl3]; omega) (by rw [hl3]; omega)
  rw [e3]
  simp -implicitDefEqProofs only [syms, symx, seval, c171]
  refine zbf (A := h2'.size + 1) (by kernel_rfl) (by rw [zad]; omega) (by omega) (by simpa only [zap, zad, List.append_nil, List.length_cons, List.length_nil, Nat.zero_add] using c3) ?_
  replace z := (z.upW [] (h'.size + 0) (by omega)).step c3 (by omega)
  rw [zaa h3]
  repeat' (first | simp -implicitDefEqProofs only [syms, symx, seval, c171] | ((with_reducible refine ⟨z.grw.lay _ _, ?_⟩); (intro _ h' zz x _); (try simp only [zap, List.append_nil] at x); (try replace o3 := o3.over x); (replace z := zz); (clear zz); rw [zaa h']))
  exact hk _ _ (z.upW _ _ (by omega)) (by have := (OwE.lay ⟨_, o3⟩ [] h'.low : OwE Rep.bind h _ 141 _ _); simpa only [List.append_assoc, List.singleton_append] using this)
theorem zqz (l : List BindD) (v : Value) (h : Heap) (hl : Sl Rep.bind h v l) (hs : l.length ≤ 1000) (K : Value → Heap → Prop)
    (hk : ∀ h' w, Ext h h' → OwE Rep.bind h h' 141 w l → K w h') : Ok Tryz.prog tab ov 132 [v] h K := by
  rw [zaa h]
  obtain ⟨b, hb, hnil⟩ := zuB hl
  refine Ok.into rfl zrj (zaB N132) rfl (m := 7) rfl ?_
  simp -implicitDefEqProofs only [syms, symx, seval, c132, hb]
  cases b
  · simp -implicitDefEqProofs only [syms, symx, seval, c132, za2, zum]
    obtain ⟨news, hs, hsr⟩ := zis (A := h.size + 1) (r := Rep.bind) (by decide) (hl.lay [.row [] 141 false] h.low) (fun cs y hr => hr)
    have f : Ow Rep.bind h (h.lay [.row [] 141 false] h.low) 141 (h.size + 1) (.slice (some ⟨h.size + 0, 0, none⟩) 0 0) [] :=
      .inl ⟨by omega, rfl, .inr ⟨h.size + 0, 0, rfl, by omega, by rw [zad]; simp, [], 141, false, by rw [zaR]; rfl⟩⟩
    obtain ⟨w, h', A', e1, e2, e3, e4, e5⟩ := zdz (t := 36) ds36 zcr rfl (by decide) (by rw [zad]; omega) f hs hsr (by simp only [List.length_nil]; omega) (by simp only [List.length_nil]; omega)
    rw [e1]
    simp -implicitDefEqProofs only [syms, symx, seval, c132]
    exact hk _ _ ((Ext.refl h).stepW e3 (by omega) (by omega)) ⟨_, by simpa using e2⟩
  · simp -implicitDefEqProofs only [syms, symx, seval, c132]
    rw [hnil rfl] at hk
    exact hk _ _ ((Ext.refl h).upW _ _ (by omega)) ⟨_, Ow.nil (Nat.le_refl _)⟩
theorem zvS (l : List BindD) (v : Value) (s : ByteArray) (t : TermD) (h : Heap) (hl : Sl Rep.bind h v l) (hs : l.length ≤ 900) (K : Value → Heap → Prop)
    (hk : ∀ h' w e, Ext h h' → (zgA l s t = none → e ≠ 0) → (∀ m, zgA l s t = some m → e = 0 ∧ OwE Rep.bind h h' 141 w m) → K (.tuple #[w, .int .i64 e]) h') : Ok Tryz.prog tab ov 133 [v, .string s, t.val] h K := by
  rw [zaa h]
  have z := Ext.refl h
  rcases hg : zaF l s with ⟨⟨tv, ts⟩, pb⟩
  obtain ⟨x, hx⟩ : ∃ x, x = zbD l t := ⟨_, rfl⟩
  rcases x with ⟨xv, xs⟩
  unfold zgA at hk
  rw [hg, ← hx] at hk
  refine Ok.into rfl ztR (zaB N133) rfl (m := 41) rfl ?_
  simp -implicitDefEqProofs only [syms, symx, seval, c133, TermD.val, TermD.cells]
  repeat' ((first | ((with_reducible first | apply zaw | apply zdA | apply zg4 | apply zgU | apply zgt) <;> intro _) | with_reducible_and_instances refine zf4 (hl.mono z.inc) (by decide) ds36 zfv (by omega) (fun w2 hb2 => ?_) | ((with_reducible refine ⟨z.grw.lay _ _, ?_⟩); (intro _ h' zz x _); (try simp only [zap, List.append_nil] at x); (try replace o3 := o3.over x); (replace z := zz); (clear zz); rw [zaa h'])) <;> simp -implicitDefEqProofs only [syms, symx, seval, c133])
  refine zoT l _ _ (hl.lay _ _) (by omega) _ (fun h' e x he => ?_)
  have q0 := Holds.top (i := 0) x rfl
  (( skip); replace z := z.overW x (by (try simp only [lsz]); omega); rw [zaa h'])
  simp -implicitDefEqProofs only [syms, symx, seval, c133]
  refine zwu ?_ ?_
  · intro hne
    simp -implicitDefEqProofs only [syms, symx, seval, c133]
    have hbad : ¬ ChkD l := fun hh => hne (he.2 hh)
    rw [if_pos hbad] at hk
    exact hk _ _ _ (z.upW _ _ (by omega)) (fun _ => by decide) (fun m hm => by cases hm)
  intro he0
  have hC := he.1 he0
  rw [if_neg (by simpa using hC)] at hk
  repeat' ( simp -implicitDefEqProofs only [syms, symx, seval, c133])
  refine zk5 l _ s _ ((hl.mono z.inc).lay _ _) (by omega) _ (fun h' x => ?_)
  rw [hg]
  (( skip); replace z := z.overW x (by (try simp only [lsz]); omega); (try replace q0 := q0.over x); rw [zaa h'])
  simp -implicitDefEqProofs only [syms, symx, seval, c133, q0.lay, TermD.val, TermD.cells]
  repeat' ((first | ((with_reducible first | apply zaw | apply zdA | apply zg4 | apply zgU | apply zgt) <;> intro _) | with_reducible_and_instances refine zf4 (hl.mono z.inc) (by decide) ds36 zfv (by omega) (fun w2 hb2 => ?_) | ((with_reducible refine ⟨z.grw.lay _ _, ?_⟩); (intro _ h' zz x _); (try simp only [zap, List.append_nil] at x); (try replace q0 := q0.over x); (replace z := zz); (clear zz); rw [zaa h'])) <;> simp -implicitDefEqProofs only [syms, symx, seval, c133, zaP, zaC, List.all_cons, List.all_nil, Am.one, Bool.and_true, Bool.true_and, Bool.and_self, List.set_cons_zero, List.set_cons_succ, st4, st3, st9, st23, st26, st29, zcj, q0.lay, TermD.val, TermD.cells])
  refine ziZ (fun hpb => ?_) (fun hpb => ?_)
  all_goals
    subst hpb
    repeat' ( simp -implicitDefEqProofs only [syms, symx, seval, c133, zaP, zaC, List.all_cons, List.all_nil, Am.one, Bool.and_true, Bool.true_and, Bool.and_self, List.set_cons_zero, List.set_cons_succ, st4, st3, st9, st23, st26, st29, zcj, q0.lay, TermD.val, TermD.cells])
    refine znu l v t _ ((hl.mono z.inc).lay _ _) (by omega) _ (fun h' x => ?_)
    rw [← hx]
    (( skip); replace z := z.overW x (by (try simp only [lsz]); omega); (try replace q0 := q0.over x); rw [zaa h'])
    repeat' (first | simp -implicitDefEqProofs only [syms, symx, seval, c133, zaP, zaC, List.all_cons, List.all_nil, Am.one, Bool.and_true, Bool.true_and, Bool.and_self, List.set_cons_zero, List.set_cons_succ, st4, st3, st9, st23, st26, st29, zcj, q0.lay, TermD.val, TermD.cells, zrW] | ((with_reducible  apply zaw ) <;> intro _))
  all_goals try
    ((with_reducible refine hk _ _ _ (z.upW _ _ (by omega)) ?_ ?_) <;> (clear hk; intros; first | decide | (exfalso; simp_all)))
  have h1 : ¬ (s = ⟨#[]⟩ ∨ t.s = ⟨#[]⟩) := by simp [*]
  rw [if_neg h1, if_neg (by simp)] at hk
  refine zxM ⟨s, ⟨xv, xs⟩⟩ _ _ (fun h' x => ?_)
  have q1 := Holds.top (i := 0) x rfl
  (( skip); replace z := z.overW x (by (try simp only [lsz]); omega); (try replace q0 := q0.over x); rw [zaa h'])
  cases hown : ownD ⟨s, ⟨xv, xs⟩⟩
  rotate_left
  · repeat' ( simp -implicitDefEqProofs only [syms, symx, seval, c133])
    rw [if_pos hown] at hk
    exact hk _ _ _ (z.upW _ _ (by omega)) (fun _ => by decide) (fun m hm => by cases hm)
  rw [if_neg (by rw [hown]; decide)] at hk
  repeat' ( simp -implicitDefEqProofs only [syms, symx, seval, c133])
  refine (zbP (by simp only [c133])) (z.upW _ _ (by omega)) ?_
  repeat' ( simp -implicitDefEqProofs only [syms, symx, seval, c133, q1.lay])
  refine zbg (by have := z.size; omega) (by omega) ?_
  simp -implicitDefEqProofs only [syms, symx, seval, c133]
  refine zuw l [⟨s, ⟨xv, xs⟩⟩] v _ _ ((hl.mono z.inc).lay _ _) (zt1 (b := ⟨s, ⟨xv, xs⟩⟩)) (by omega) (by simp) _ (fun h' u x hu => ?_)
  (( ((with_reducible refine zar ?_ ?_ ?_); (· exact (by (try simp only [lsz]); have := z.size; omega)); (·  exact x )) ); replace z := z.overW x (by (try simp only [lsz]); omega); (try replace q1 := q1.over x); rw [zaa h'])
  repeat' ( simp -implicitDefEqProofs only [syms, symx, seval, c133, q1.lay])
  have hz9 := z.size
  refine zve (zdx l [⟨s, ⟨xv, xs⟩⟩]) u ⟨s, ⟨xv, xs⟩⟩ _ (hu.lay _ _) (by unfold zdx; rw [List.length_map]; omega) (zpx hC.1) _ (fun h' w x hw => ?_)
  (( ((with_reducible refine zar ?_ ?_ ?_); (· exact (by (try simp only [lsz]); have := z.size; omega)); (·  exact x )) ); replace z := z.overW x (by (try simp only [lsz]); omega); (try replace q1 := q1.over x); rw [zaa h'])
  repeat' (first | simp -implicitDefEqProofs only [syms, symx, seval, c133] | ((with_reducible refine ⟨z.grw.lay _ _, ?_⟩); (intro _ h' zz x _); (try simp only [zap, List.append_nil] at x); (try replace hw := hw.over x); (replace z := zz); (clear zz); rw [zaa h']))
  exact hk _ _ _ (z.upW _ _ (by omega)) (fun hm => by cases hm) (fun m hm => by cases hm; exact ⟨rfl, (hw.low (by first | omega | (simp only [zad]; omega))).lay _ _⟩)
theorem zw6 (l : List BindD) (v : Value) (p g : AtomD) (h : Heap) (hl : Sl Rep.bind h v l) (hs : l.length ≤ 890) (K : Value → Heap → Prop)
    (hk : ∀ h' w b, Ext h h' → (extD l p g = none → b = false) → (∀ m, extD l p g = some m → b = true ∧ OwE Rep.bind h h' 141 w m) → K (.tuple #[w, .bool b]) h') : Ok Tryz.prog tab ov 95 [v, p.val, g.val] h K := by
  rw [zaa h]
  have z := Ext.refl h
  refine Ok.into rfl zt5 (zaB N95) rfl (m := 118) rfl ?_
  repeat' ( simp -implicitDefEqProofs only [syms, symx, seval, c95, zay])
  refine zoT l _ _ ((hl.mono z.inc).lay _ _) (by omega) _ (fun h' e x he => ?_)
  have q0 := Holds.top (i := 0) x rfl
  have q1 := Holds.top (i := 1) x rfl
  ((skip); replace z := z.overW x (by (try simp only [lsz]); omega); rw [zaa h'])
  simp -implicitDefEqProofs only [syms, symx, seval, c95]
  refine zwu ?_ ?_
  · intro hne
    repeat' ( simp -implicitDefEqProofs only [syms, symx, seval, c95])
    have hn : extD l p g = none := by unfold extD; rw [if_pos (.inl (fun hh => hne (he.2 hh)))]
    exact hk _ _ _ (z.upW _ _ (by omega)) (fun _ => rfl) (fun m hm => by rw [hn] at hm; cases hm)
  intro he0
  have hC := he.1 he0
  simp -implicitDefEqProofs only [syms, symx, seval, c95, q0.lay, q1.lay, ↓zax, zau, zaj]
  refine zvj p g _ _ (fun h' x => ?_)
  ((skip); replace z := z.overW x (by (try simp only [lsz]); omega); (try replace q0 := q0.over x); (try replace q1 := q1.over x); rw [zaa h'])
  cases hal : zce p g
  · repeat' (first | simp -implicitDefEqProofs only [syms, symx, seval, c95] | ((with_reducible_and_instances apply zaf); (· rfl)))
    have hn : extD l p g = none := by unfold extD; rw [if_pos (.inr (.inl hal))]
    exact hk _ _ _ (z.upW _ _ (by omega)) (fun _ => rfl) (fun m hm => by rw [hn] at hm; cases hm)
  repeat' (first | simp -implicitDefEqProofs only [syms, symx, seval, c95, q0.lay, q1.lay, ↓zax, zau, zaj] | ((with_reducible_and_instances apply zaf); (· rfl)))
  refine zlT g _ _ (fun h' x => ?_)
  ((skip); replace z := z.overW x (by (try simp only [lsz]); omega); (try replace q0 := q0.over x); (try replace q1 := q1.over x); rw [zaa h'])
  cases hgr : g.ground
  · repeat' (first | simp -implicitDefEqProofs only [syms, symx, seval, c95] | ((with_reducible_and_instances apply zaf); (· rfl)))
    have hn : extD l p g = none := by unfold extD; rw [if_pos (.inr (.inr hgr))]
    exact hk _ _ _ (z.upW _ _ (by omega)) (fun _ => rfl) (fun m hm => by rw [hn] at hm; cases hm)
  repeat' (first | simp -implicitDefEqProofs only [syms, symx, seval, c95, q0.lay, q1.lay, ↓zmn] | ((with_reducible_and_instances apply zaf); (· rfl)))
  have hp4 : 0 ≤ p.n ∧ p.n ≤ 4 := by
    unfold zce at hal
    simp only [Bool.and_eq_true, decide_eq_true_eq] at hal
    exact hal.2.2.2
  obtain ⟨I1, hI1⟩ : ∃ I : Nat → Env → Heap → Prop, I = (fun n e h' => ∃ (k : Nat) (h1 : Heap), h' = h1.lay [] h1.low ∧ Ext h h1 ∧ (n = 4 - k ∧ k ≤ 4 ∧ (∀ i, i < k → (i : Int) < p.n → barD l (p.arg i) = false) ∧ Holds h1 (h.size + 0) (.row p.cells 26 false) ∧ Holds h1 (h.size + 1) (.row g.cells 26 false)) ∧ ∃ J : Nat → Value, e = (v :: jr J 1 3 (.pointer (some ⟨h.size + 0, 0, none⟩) :: .pointer (some ⟨h.size + 1, 0, none⟩) :: jr J 6 30 (.agg ⟨p.argCells⟩ :: .int .i64 k :: jr J 38 83 ([]))))) := ⟨_, rfl⟩
  refine zas I1 _ (by rw [hI1]; exact ⟨0, _, rfl, z, ⟨rfl, by omega, by intro i hi; omega, q0, q1⟩, junk (by kernel_rfl)⟩) ?_
  intro n e h' hin
  rw [hI1] at hin
  obtain ⟨k, h1', rfl, z, hinv, J, rfl⟩ := hin
  clear q0 q1
  obtain ⟨rfl, hk4, hbar, q0, q1⟩ := hinv
  have hw : IntKind.i64.wrap ((k : Int) + 1) = ((k + 1 : Nat) : Int) := by rw [zae (by omega) (by omega)]; omega
  simp -implicitDefEqProofs only [syms, symx, seval, c95]
  refine zaw (fun hlt => ?_) (fun hlt => ?_)
  rotate_left
  · repeat' ( simp -implicitDefEqProofs only [syms, symx, seval, c95])
    have hbar4 : ¬ ∃ i : Nat, i < 4 ∧ (i : Int) < p.n ∧ barD l (p.arg i) = true := by
      rintro ⟨i, g1, g2, g3⟩
      rw [hbar i (by omega) g2] at g3
      cases g3
    have hext : extD l p g = zbY p g p.n.toNat l := by
      unfold extD
      rw [if_neg (by simp [hC, hal, hgr]), if_neg hbar4]
    have hz9 := z.size
    refine zqz l v _ ((hl.mono z.inc).lay _ _) (by omega) _ (fun h' w x hw2 => ?_)
    replace hw2 := hw2.low (show h.size ≤ _ by first | omega | (simp only [zad]; omega))
    ((skip); replace z := z.overW x (by (try simp only [lsz]); omega); (try replace q0 := q0.over x); (try replace q1 := q1.over x); rw [zaa h'])
    repeat' ( simp -implicitDefEqProofs only [syms, symx, seval, c95, q0.lay, ↓zmn])
    obtain ⟨I2, hI2⟩ : ∃ I : Nat → Env → Heap → Prop, I = (fun n e h' => ∃ (k : Nat) (out : List BindD) (w : Value) (h1 : Heap), h' = h1.lay [] h1.low ∧ Ext h h1 ∧ (n = 4 - k ∧ k ≤ 4 ∧ k ≤ p.n.toNat ∧ zbY p g k l = some out ∧ OwE Rep.bind h h1 141 w out ∧ out.length ≤ l.length + k ∧ Holds h1 (h.size + 0) (.row p.cells 26 false) ∧ Holds h1 (h.size + 1) (.row g.cells 26 false)) ∧ ∃ J : Nat → Value, e = (jr J 0 4 (.pointer (some ⟨h.size + 0, 0, none⟩) :: .pointer (some ⟨h.size + 1, 0, none⟩) :: jr J 6 6 (w :: .bool true :: jr J 14 58 (.agg ⟨p.argCells⟩ :: .int .i64 k :: jr J 74 47 ([])))))) := ⟨_, rfl⟩
    refine zas I2 _ (by rw [hI2]; exact ⟨0, l, w, _, rfl, z, ⟨rfl, by omega, by omega, rfl, hw2, by omega, q0, q1⟩, junk (by kernel_rfl)⟩) ?_
    intro n e h' hin
    rw [hI2] at hin
    obtain ⟨k, out, w, h2', rfl, z, hinv, J, rfl⟩ := hin
    clear q0 q1
    obtain ⟨rfl, hk4, hkn, hpl, hout, hlen, q0, q1⟩ := hinv
    have hw : IntKind.i64.wrap ((k : Int) + 1) = ((k + 1 : Nat) : Int) := by rw [zae (by omega) (by omega)]; omega
    simp -implicitDefEqProofs only [syms, symx, seval, c95]
    refine zaw (fun hlt => ?_) (fun hlt => ?_)
    rotate_left
    · repeat' (first | simp -implicitDefEqProofs only [syms, symx, seval, c95] | ((with_reducible_and_instances apply zaf); (· rfl)))
      have hkk : p.n.toNat = k := by omega
      rw [hext, hkk, hpl] at hk
      exact hk _ _ _ (z.upW _ _ (by omega)) (fun hm => by cases hm) (fun m hm => by cases hm; exact ⟨rfl, hout.lay _ _⟩)
    rcases hg : zaF out (p.arg k).s with ⟨⟨tv, ts⟩, pb⟩
    have hin4 : (0 : Int) ≤ (k : Int) ∧ (k : Int) < 4 := by omega
    have hca := znB g k (by omega)
    have hb32 : ∀ (Q : Ex → Env → Heap → Prop) (e : Env) (h : Heap), ze8 3 Q (.exit 2) e h = Q (.exit 2) e h := fun Q e h => zix 3 2 Q e h rfl
    simp -implicitDefEqProofs only [syms, symx, seval, c95]
    repeat' ((first | ((with_reducible  apply zdA ) <;> intro _) | ((with_reducible_and_instances refine zms (by omega) rfl rfl ?_)) | ((with_reducible_and_instances apply zaf); (· rfl))) <;> simp -implicitDefEqProofs only [syms, symx, seval, c95, zaP, zaC, List.all_cons, List.all_nil, Am.one, Bool.and_true, Bool.true_and, Bool.and_self, List.set_cons_zero, List.set_cons_succ, st4, st3, st9, st23, st26, st29, zcj, q0.lay, q1.lay, zxf, TermD.val, TermD.cells, hin4, ↓hca, zfG, zbF, and_self, if_true, hb32, zdy])
    · have hkk : p.n.toNat = k := by omega
      rw [hext, hkk, hpl] at hk
      exact hk _ _ _ (z.upW _ _ (by omega)) (fun hm => by cases hm) (fun m hm => by cases hm; exact ⟨rfl, hout.lay _ _⟩)
    have hnext : zbY p g (k + 1) l = zeb out (p.arg k) (g.arg k) := by
      conv => lhs; unfold zbY
      rw [hpl]
      rfl
    refine zk5 out w (p.arg k).s _ ((hout.sl (by decide)).lay _ _) (by omega) _ (fun h' x => ?_)
    rw [hg]
    have q2 := Holds.top (i := 0) x rfl
    have q3 := Holds.top (i := 1) x rfl
    replace hout := hout.over x
    ((skip); replace z := z.overW x (by (try simp only [lsz]); omega); (try replace q0 := q0.over x); (try replace q1 := q1.over x); rw [zaa h'])
    simp -implicitDefEqProofs only [syms, symx, seval, c95, zaP, zaC, List.all_cons, List.all_nil, Am.one, Bool.and_true, Bool.true_and, Bool.and_self, List.set_cons_zero, List.set_cons_succ, st4, st3, st9, st23, st26, st29, zcj, q0.lay, q1.lay, q2.lay, q3.lay, TermD.val, TermD.cells]
    repeat' ((first | ((with_reducible  apply zaw ) <;> intro _) | with_reducible refine ziZ (fun _ => ?_) (fun _ => ?_) | ((with_reducible_and_instances apply zaf); (· rfl))) <;> simp -implicitDefEqProofs only [syms, symx, seval, c95, zaP, zaC, List.all_cons, List.all_nil, Am.one, Bool.and_true, Bool.true_and, Bool.and_self, List.set_cons_zero, List.set_cons_succ, st4, st3, st9, st23, st26, st29, zcj, q0.lay, q1.lay, q2.lay, q3.lay, TermD.val, TermD.cells, zpQ, hb32, zdy])
    all_goals try first
      | ((with_reducible refine hk _ _ _ (z.upW _ _ (by omega)) (fun _ => rfl) (fun m hm => ?_))
         have hpd : zeb out (p.arg k) (g.arg k) = none := by
           unfold zeb
           rw [hg]
           first
             | rw [if_pos (by assumption), if_neg (by assumption)]
             | rw [if_neg (by simp [*]), if_pos (by assumption), if_neg (by assumption)]
         have hn : extD l p g = none := by
           rw [hext]
           exact zg1 (k := k + 1) (by rw [hnext, hpd]) (by omega)
         rw [hn] at hm
         cases hm)
      | (have hpd : zeb out (p.arg k) (g.arg k) = some out := by
           unfold zeb
           rw [hg]
           first
             | rw [if_pos (by assumption), if_pos (by assumption)]
             | rw [if_neg (by simp [*]), if_pos (by assumption), if_pos (by assumption)]
         rw [hw]
         refine zdC (z.upW _ _ (by omega)) (fun H z hO hI => ?_)
         (rw [hI2]; with_reducible refine zac (m := _) ?_ ⟨k + 1, out, w, _, rfl, z, ⟨rfl, by omega, by omega, by rw [hnext, hpd], hout.mono hI, by omega, hO _ _ q0, hO _ _ q1⟩, junk (by kernel_rfl)⟩; omega))
    have hpd : zeb out (p.arg k) (g.arg k) = zgA out (p.arg k).s (g.arg k) := by
      unfold zeb
      rw [hg, if_neg (by simp [*]), if_neg (by simp [*])]
    have hz8 := z.size
    refine zvS out w (p.arg k).s (g.arg k) _ ((hout.sl (by decide)).lay _ _) (by omega) _ (fun h' w2 e x hbn hbs => ?_)
    ((skip); replace z := z.overW x (by (try simp only [lsz]); omega); (try replace q0 := q0.over x); (try replace q1 := q1.over x); rw [zaa h'])
    have hva := zaH w2
    by_cases he2 : e = 0
    · have hbeq : (e == 0) = true := by simpa using he2
      simp -implicitDefEqProofs only [syms, symx, seval, c95, hva, hbeq]
      repeat' (( ((with_reducible_and_instances apply zaf); (· rfl))) <;> simp -implicitDefEqProofs only [syms, symx, seval, c95, hva, hbeq, hb32, zdy])
      cases hbd : zgA out (p.arg k).s (g.arg k) with
      | none => exact absurd he2 (hbn hbd)
      | some m =>
        have hsl := (hbs m hbd).2.low (show h.size ≤ _ by first | omega | (simp only [zad]; omega))
        have hml := zgZ hbd
        rw [hw]
        (rw [hI2]; with_reducible refine zac (m := _) ?_ ⟨k + 1, m, w2, _, rfl, z, ⟨rfl, by omega, by omega, by rw [hnext, hpd, hbd], hsl, by omega, q0, q1⟩, junk (by kernel_rfl)⟩; omega)
    · have hbeq : (e == 0) = false := by simpa using he2
      simp -implicitDefEqProofs only [syms, symx, seval, c95, hva, hbeq]
      repeat' (( ((with_reducible_and_instances apply zaf); (· rfl))) <;> simp -implicitDefEqProofs only [syms, symx, seval, c95, hva, hbeq, hb32, zdy])
      have hn : extD l p g = none := by
        rw [hext]
        refine zg1 (k := k + 1) ?_ (by omega)
        rw [hnext, hpd]
        cases hbd : zgA out (p.arg k).s (g.arg k) with
        | none => rfl
        | some m => exact absurd (hbs m hbd).1 he2
      exact hk _ _ _ (z.upW _ _ (by omega)) (fun _ => rfl) (fun m hm => by rw [hn] at hm; cases hm)
  rcases hg : zaF l (p.arg k).s with ⟨⟨tv, ts⟩, pb⟩
  simp -implicitDefEqProofs only [syms, symx, seval, c95]
  repeat' (( ((with_reducible_and_instances refine zms (by omega) rfl rfl ?_))) <;> simp -implicitDefEqProofs only [syms, symx, seval, c95, zaP, zaC, List.all_cons, List.all_nil, Am.one, Bool.and_true, Bool.true_and, Bool.and_self, List.set_cons_zero, List.set_cons_succ, st4, st3, st9, st23, st26, st29, zcj, TermD.val, TermD.cells])
  refine zk5 l v (p.arg k).s _ (hl.mono (z.upW _ _ (by omega)).inc) (by omega) _ (fun h' x => ?_)
  rw [hg]
  have q2 := Holds.top (i := 0) x rfl
  ((skip); replace z := z.overW x (by (try simp only [lsz]); omega); (try replace q0 := q0.over x); (try replace q1 := q1.over x); rw [zaa h'])
  simp -implicitDefEqProofs only [syms, symx, seval, c95, zaP, zaC, List.all_cons, List.all_nil, Am.one, Bool.and_true, Bool.true_and, Bool.and_self, List.set_cons_zero, List.set_cons_succ, st4, st3, st9, st23, st26, st29, zcj, q0.lay, q2.lay, TermD.val, TermD.cells]
  repeat' ((first | ((with_reducible  apply zaw ) <;> intro _) | with_reducible refine ziZ (fun _ => ?_) (fun _ => ?_)) <;> simp -implicitDefEqProofs only [syms, symx, seval, c95, zaP, zaC, List.all_cons, List.all_nil, Am.one, Bool.and_true, Bool.true_and, Bool.and_self, List.set_cons_zero, List.set_cons_succ, st4, st3, st9, st23, st26, st29, zcj, q0.lay, q2.lay, TermD.val, TermD.cells, zxf])
  all_goals first
    | ((with_reducible refine hk _ _ _ (z.upW _ _ (by omega)) (fun _ => rfl) (fun m hm => ?_))
       have hb : barD l (p.arg k) = true := by (unfold barD; rw [hg]; simp [*])
       have hn : extD l p g = none := by
         unfold extD
         split
         · rfl
         · rw [if_pos ⟨k, by omega, by omega, hb⟩]
       rw [hn] at hm
       cases hm)
    | (have hnx : ∀ i, i < k + 1 → (i : Int) < p.n → barD l (p.arg i) = false := by
         intro i hi hin
         by_cases hik : i = k
         · subst hik
           first | (exfalso; omega) | (unfold barD; rw [hg]; simp [*])
         · exact hbar i (by omega) hin
       rw [hw]
       refine zdC (z.upW _ _ (by omega)) (fun H z hO _ => ?_)
       (rw [hI1]; with_reducible refine zac (m := _) ?_ ⟨k + 1, _, rfl, z, ⟨rfl, by omega, hnx, hO _ _ q0, hO _ _ q1⟩, junk (by kernel_rfl)⟩; omega))
end Go.Proofs.YtemapihoobmonaaGreatDoor
