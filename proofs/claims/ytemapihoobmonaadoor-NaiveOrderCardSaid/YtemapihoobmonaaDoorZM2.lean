/- Walks: facts and clauses that may be, by the program. Written out by fill2.py. No condition. -/
import Derived.Test.YtemapihoobmonaaDoorZM1
import Derived.Test.YtemapihoobmonaaDoorG20
import Derived.Test.YtemapihoobmonaaDoorG37
namespace Go.Proofs.YtemapihoobmonaaDoor
open Go.Am
set_option linter.unusedSimpArgs false
set_option linter.unusedVariables false
set_option maxRecDepth 100000
set_option maxHeartbeats 0
theorem eqS (a b : ByteArray) : eqIn tab 20 9 (.string a) (.string b) = some (decide (a = b)) := by
  have h : eqIn tab 20 9 (.string a) (.string b) = some (a.data.toList == b.data.toList) := by kernel_rfl
  rw [h, ba_beq]
theorem skS (a : ByteArray) : sameKey (.string a) (.string a) = true := by
  show same1 (.string a) (.string a) = true
  unfold same1
  simp
theorem stM53 (h : Heap) (l : List Blk) (w i o : Nat) (v : Value) (hi : i < l.length) : storeA tab 53 (.pointer (some ⟨h.size + i, o, none⟩)) v (h.lay l w) = if v.cells.size = 0 then storeO l[i]? i o v.cells.toList h l w else none := st_lay sz53 h l w i o v hi
theorem bldM_es : buildA tab 53 [] = some (.agg ⟨[]⟩) := by kernel_rfl
theorem zeroM_es : tab.zero 53 = some (.agg ⟨[]⟩) := by kernel_rfl
theorem cutM_cl0 (a : AtomD) (u : Value) : cut (a.cells ++ [u]) 0 11 = some a.cells := rfl
theorem cutM_cl12 (a : AtomD) (u : Value) : cut (a.cells ++ [u]) 0 12 = some (a.cells ++ [u]) := rfl
theorem cellM_cl1 (a : AtomD) (u : Value) : (a.cells ++ [u])[11]? = some u := rfl
theorem lenM_cl (a : AtomD) (u : Value) : (a.cells ++ [u]).length = 12 := rfl
theorem decM12 : decide (12 ≤ 12) = true := rfl
theorem dropM12 (z0 z1 z2 z3 z4 z5 z6 z7 z8 z9 z10 z11 : Value) : List.drop 12 [z0, z1, z2, z3, z4, z5, z6, z7, z8, z9, z10, z11] = [] := rfl
theorem oneM_cl {a : AtomD} {w : Value} (h : Am.one w = true) : (a.cells ++ [w]).all Am.one = true := by
  rw [List.all_append]
  simp only [List.all_cons, List.all_nil, h, Bool.and_true]
  rfl
theorem ok_factM (a : AtomD) (h : Heap) (hsp : SpaceAt 1 h) (K : Value → Heap → Prop) (h1k : FactX a → ∀ h', Ext h h' → K (.bool true) h') (h2k : ¬ FactX a → ∀ h', Ext h h' → K (.bool false) h') : Ok Tryd.prog tab ov 24 [a.val] h K := by
  rw [lay_nil h]
  have z := Ext.refl h
  refine Ok.into rfl tab_fn24 (bodyF N24) rfl (m := 9) rfl ?_
  repeat' ( simp -implicitDefEqProofs only [syms, symx, seval, c24, cells_atom, ↓cut_atom, agg_atom, valE_atom])
  refine ok_checkM a _ (hsp.lay _ _) _ (fun hv h' x => ?_) (fun hv c h' hc x => ?_)
  · have q0 := Holds.top (i := 0) x rfl
    ((skip); replace z := z.overW x (by (try simp only [lsz]); omega); rw [lay_nil h'])
    repeat' ( simp -implicitDefEqProofs only [syms, symx, seval, c24, q0.lay, ↓cut_atom, agg_atom, valE_atom])
    refine ok_ground a _ _ (fun h' x => ?_)
    ((skip); replace z := z.overW x (by (try simp only [lsz]); omega); (try replace q0 := q0.over x); rw [lay_nil h'])
    cases hg : a.ground
    · repeat' ( simp -implicitDefEqProofs only [syms, symx, seval, c24])
      exact h2k (fun x => by rw [x.ground] at hg; cases hg) _ (z.upW _ _ (by omega))
    · repeat' ( simp -implicitDefEqProofs only [syms, symx, seval, c24])
      exact h1k ⟨hv, hg⟩ _ (z.upW _ _ (by omega))
  · ((skip); replace z := z.overW x (by (try simp only [lsz]); omega); (try replace q0 := q0.over x); rw [lay_nil h'])
    repeat' (first | simp -implicitDefEqProofs only [syms, symx, seval, c24] | ((with_reducible  apply forkB ) <;> intro _))
    · exact absurd (by assumption) hc
    · exact h2k (fun x => hv x.valid) _ (z.upW _ _ (by omega))
open Classical in
noncomputable def badA (a : AtomD) : Bool := !decide (ValidX a)
theorem ok_one1M (a : AtomD) (h : Heap) (hsp : SpaceAt 1 h) (K : Value → Heap → Prop) (hk : ∀ h', Ext h h' → K (.bool (badA a)) h') : Ok Tryd.prog tab ov 32 [a.val] h K := by
  rw [lay_nil h]
  have z := Ext.refl h
  refine Ok.into rfl tab_fn32 (bodyF N32) rfl (m := 5) rfl ?_
  repeat' ( simp -implicitDefEqProofs only [syms, symx, seval, c32, cells_atom, ↓cut_atom, agg_atom, valE_atom])
  refine ok_checkM a _ (hsp.lay _ _) _ (fun hv h' x => ?_) (fun hv c h' hc x => ?_)
  · have e : badA a = false := by unfold badA; simp [hv]
    rw [e] at hk
    ((skip); replace z := z.overW x (by (try simp only [lsz]); omega); rw [lay_nil h'])
    repeat' ( simp -implicitDefEqProofs only [syms, symx, seval, c32])
    first | exact hk _ (z.upW _ _ (by omega)) | skip
  · have e : badA a = true := by unfold badA; simp [hv]
    rw [e] at hk
    ((skip); replace z := z.overW x (by (try simp only [lsz]); omega); rw [lay_nil h'])
    simp -implicitDefEqProofs only [syms, symx, seval, c32]
    refine forkX (fun _ => ?_) (fun hh => absurd hh hc)
    repeat' ( simp -implicitDefEqProofs only [syms, symx, seval, c32])
    exact hk _ (z.upW _ _ (by omega))
theorem ok_rangedM (c : ClauseD) (v : Value) (h : Heap) (hl : Sl Rep.atom h v c.body) (hn : c.body.length ≤ 1000) (K : Value → Heap → Prop) (h1k : (∀ x, varIn c.head x → ∃ b ∈ c.body, varIn b x) → ∀ h', Ext h h' → K (.bool true) h') (h2k : ¬ (∀ x, varIn c.head x → ∃ b ∈ c.body, varIn b x) → ∀ h', Ext h h' → K (.bool false) h') : Ok Tryd.prog tab ov 35 [.agg ⟨c.head.cells ++ [v]⟩] h K := by
  rw [lay_nil h]
  have z := Ext.refl h
  have hva := vSelf v
  have hlv := fun (hh : Heap) => hl.lenA ds23 hh
  refine Ok.into rfl tab_fn35 (bodyF N35) rfl (m := 48) rfl ?_
  repeat' ( simp -implicitDefEqProofs only [syms, symx, seval, c35, w_makeMap, cellM_cl1, hva, hlv])
  refine W_fold (fun h' x hq => ?_)
  have q0 := hq 0 _ rfl
  have qm := hq 1 _ rfl
  clear hq
  (replace z := z.overW x (by (try simp only [lsz]); omega); rw [lay_nil h'])
  obtain ⟨A0, hA0⟩ : ∃ A, A = h.size + 0 := ⟨_, rfl⟩
  obtain ⟨Mm, hMm⟩ : ∃ A, A = h.size + 1 := ⟨_, rfl⟩
  rw [← hA0] at q0
  rw [← hMm] at qm
  rw [← hA0, ← hMm]
  have m0 : MapK Value.string h' Mm ([] : List ByteArray) := MapK.new qm
  clear qm
  obtain ⟨I1, hI1⟩ : ∃ I : Nat → Env → Heap → Prop, I = (fun n e h' => ∃ (i : Nat) (met : List ByteArray) (h1 : Heap), h' = h1.lay [] h1.low ∧ Ext h h1 ∧ (n = c.body.length - i ∧ i ≤ c.body.length ∧ (∀ x, x ∈ met ↔ ∃ y ∈ c.body.take i, varIn y x) ∧ Holds h1 A0 (.row (c.head.cells ++ [v]) 46 false) ∧ MapK Value.string h1 Mm met) ∧ ∃ J : Nat → Value, e = (J 0 :: .pointer (some ⟨A0, 0, none⟩) :: J 2 :: .map (some Mm) :: jr J 4 10 (v :: .int .i64 c.body.length :: .int .i64 i :: jr J 17 32 ([])))) := ⟨_, rfl⟩
  refine W_loopN I1 _ (by rw [hI1]; exact ⟨0, [], _, rfl, z, ⟨rfl, by omega, by simp, q0, m0⟩, junk (by kernel_rfl)⟩) ?_
  intro n e h' hin
  rw [hI1] at hin
  obtain ⟨i, met, h1', rfl, z, hinv, J, rfl⟩ := hin
  clear q0 m0
  obtain ⟨rfl, hi, hmet, q0, m0⟩ := hinv
  have hwi : IntKind.i64.wrap ((i : Int) + 1) = ((i + 1 : Nat) : Int) := by rw [wrap_i64 (by omega) (by omega)]; omega
  simp -implicitDefEqProofs only [syms, symx, seval, c35]
  refine forkD (fun hlt => ?_) (fun hlt => ?_)
  · obtain ⟨y, hy, hy'⟩ := amElem (l := c.body) (i := i) (by omega)
    repeat' (first | simp -implicitDefEqProofs only [syms, symx, seval, c35, lay_set, storeO_row, List.all_cons, List.all_nil, Am.one, Bool.and_true, Bool.true_and, Bool.and_self, List.set_cons_zero, List.set_cons_succ, st4, st3, st9, st33, st36, st46, st71, cells_atom, siz_atom, len_atom, one_atom, drop11, dec11, List.append_nil, if_true, ↓cut_atom, agg_atom, valE_atom] | with_reducible_and_instances refine ixa_at (hl.mono z.inc) ds23 sz36 (by omega) hy (fun p hp => ?_) | with_reducible_and_instances refine lda hp ag36 sz36 ?_)
    refine ok_varsM y _ _ (fun w l h' x s hl4 hm => ?_)
    ((skip); replace z := z.overW x (by (try simp only [lsz]); omega); (try replace q0 := q0.over x); (try replace m0 := m0.over x); rw [lay_nil h'])
    have hvw := vSelf w
    have hlw := fun (hh : Heap) => s.lenA ds84 hh
    clear hp
    repeat' ( simp -implicitDefEqProofs only [syms, symx, seval, c35, hvw, hlw])
    obtain ⟨Hb, rfl⟩ : ∃ Hb, Hb = h' := ⟨_, rfl⟩
    have hMl := m0.lt
    obtain ⟨I2, hI2⟩ : ∃ I : Nat → Env → Heap → Prop, I = (fun n e h' => ∃ (j : Nat) (met2 : List ByteArray) (h1 : Heap), h' = h1.lay [] h1.low ∧ Ext h h1 ∧ (n = l.length - j ∧ j ≤ l.length ∧ (∀ x, x ∈ met2 ↔ (∃ y ∈ c.body.take i, varIn y x) ∨ x ∈ l.take j) ∧ Holds h1 A0 (.row (c.head.cells ++ [v]) 46 false) ∧ MapK Value.string h1 Mm met2 ∧ Sl Rep.str h1 w l) ∧ ∃ J : Nat → Value, e = (J 0 :: .pointer (some ⟨A0, 0, none⟩) :: J 2 :: .map (some Mm) :: jr J 4 10 (v :: .int .i64 c.body.length :: .int .i64 i :: jr J 17 4 (w :: .int .i64 l.length :: .int .i64 j :: jr J 24 25 ([]))))) := ⟨_, rfl⟩
    refine W_loopN I2 _ (by rw [hI2]; exact ⟨0, met, _, rfl, z, ⟨rfl, by omega, by simpa using hmet, q0, m0, s⟩, junk (by kernel_rfl)⟩) ?_
    intro n e h' hin
    rw [hI2] at hin
    obtain ⟨j, met2, h2', rfl, z, hinv, J, rfl⟩ := hin
    clear q0 m0 s
    obtain ⟨rfl, hj, hmet2, q0, m0, s⟩ := hinv
    have hwj : IntKind.i64.wrap ((j : Int) + 1) = ((j + 1 : Nat) : Int) := by rw [wrap_i64 (by omega) (by omega)]; omega
    have hz2 := z.size
    simp -implicitDefEqProofs only [syms, symx, seval, c35]
    refine forkD (fun hlt2 => ?_) (fun hlt2 => ?_)
    rotate_left
    · rw [List.take_of_length_le (l := l) (i := j) (by omega)] at hmet2
      have hnx : ∀ x, x ∈ met2 ↔ ∃ y ∈ c.body.take (i + 1), varIn y x := by
        intro x
        rw [hmet2, hm, List.take_add_one, hy']
        simp only [Option.toList_some, List.mem_append, List.mem_singleton]
        constructor
        · rintro (⟨b, hb, e⟩ | e)
          · exact ⟨b, .inl hb, e⟩
          · exact ⟨y, .inr rfl, e⟩
        · rintro ⟨b, hb | hb, e⟩
          · exact .inl ⟨b, hb, e⟩
          · exact .inr (hb ▸ e)
      repeat' ( simp -implicitDefEqProofs only [syms, symx, seval, c35])
      rw [hwi]
      (rw [hI1]; with_reducible refine loopN_normal (m := _) ?_ ⟨i + 1, met2, _, rfl, z, ⟨rfl, by omega, hnx, q0, m0⟩, junk (by kernel_rfl)⟩; omega)
    obtain ⟨x0, hx0, hx0'⟩ := amElem (l := l) (i := j) (by omega)
    repeat' (first | simp -implicitDefEqProofs only [syms, symx, seval, c35, w_mapUpdate, bldM_es] | with_reducible_and_instances refine ixs_at s ds84 sz9 (by omega) hx0 (fun p hp => ?_) | with_reducible_and_instances refine ld_one hp ag9 ?_)
    have hMM := m0.lt
    have hM0 : A0 ≠ Mm := by omega
    refine upK_rule (a := x0) m0 (fun _ => rfl) skS ds83 eqS (fun h' m1 cg => ?_)
    have q1 := q0.stepL cg hM0
    have s1 := Sl.stepM s (fun _ _ _ _ h => h) m0 cg
    replace z := (z.upW _ _ (by omega)).step cg (by omega)
    rw [lay_nil h']
    have hnx : ∀ x, x ∈ x0 :: met2 ↔ (∃ y ∈ c.body.take i, varIn y x) ∨ x ∈ l.take (j + 1) := by
      intro x
      rw [List.mem_cons, hmet2, List.take_add_one, hx0', List.mem_append]
      simp only [Option.toList_some, List.mem_singleton]
      constructor
      · rintro (e | e | e)
        · exact .inr (.inr e)
        · exact .inl e
        · exact .inr (.inl e)
      · rintro (e | e | e)
        · exact .inr (.inl e)
        · exact .inr (.inr e)
        · exact .inl e
    clear q0 m0 s
    repeat' ( simp -implicitDefEqProofs only [syms, symx, seval, c35])
    rw [hwj]
    (rw [hI2]; with_reducible refine loopN_normal (m := _) ?_ ⟨j + 1, x0 :: met2, _, rfl, z, ⟨rfl, by omega, hnx, q1, m1, s1⟩, junk (by kernel_rfl)⟩; omega)
  rw [List.take_of_length_le (by omega)] at hmet
  repeat' ( simp -implicitDefEqProofs only [syms, symx, seval, c35, q0.lay, ↓cutM_cl0, agg_atom, valE_atom])
  refine ok_varsM c.head _ _ (fun w l h' x s hl4 hm => ?_)
  ((skip); replace z := z.overW x (by (try simp only [lsz]); omega); (try replace q0 := q0.over x); (try replace m0 := m0.over x); (try replace s := s.over x); rw [lay_nil h'])
  have hvw := vSelf w
  have hlw := fun (hh : Heap) => s.lenA ds84 hh
  repeat' ( simp -implicitDefEqProofs only [syms, symx, seval, c35, hvw, hlw])
  obtain ⟨I3, hI3⟩ : ∃ I : Nat → Env → Heap → Prop, I = (fun n e h' => ∃ (j : Nat) (h1 : Heap), h' = h1.lay [] h1.low ∧ Ext h h1 ∧ (n = l.length - j ∧ j ≤ l.length ∧ (∀ x ∈ l.take j, x ∈ met) ∧ MapK Value.string h1 Mm met ∧ Sl Rep.str h1 w l) ∧ ∃ J : Nat → Value, e = (jr J 0 3 (.map (some Mm) :: jr J 4 30 (w :: .int .i64 l.length :: .int .i64 j :: jr J 37 12 ([]))))) := ⟨_, rfl⟩
  refine W_loopN I3 _ (by rw [hI3]; exact ⟨0, _, rfl, z, ⟨rfl, by omega, by simp, m0, s⟩, junk (by kernel_rfl)⟩) ?_
  intro n e h' hin
  rw [hI3] at hin
  obtain ⟨j, h2', rfl, z, hinv, J, rfl⟩ := hin
  clear m0 s
  obtain ⟨rfl, hj, hall, m0, s⟩ := hinv
  have hwj : IntKind.i64.wrap ((j : Int) + 1) = ((j + 1 : Nat) : Int) := by rw [wrap_i64 (by omega) (by omega)]; omega
  simp -implicitDefEqProofs only [syms, symx, seval, c35]
  refine forkD (fun hlt2 => ?_) (fun hlt2 => ?_)
  rotate_left
  · rw [List.take_of_length_le (by omega)] at hall
    repeat' ( simp -implicitDefEqProofs only [syms, symx, seval, c35])
    exact h1k (fun x hx => (hmet x).1 (hall x ((hm x).2 hx))) _ (z.upW _ _ (by omega))
  obtain ⟨x0, hx0, hx0'⟩ := amElem (l := l) (i := j) (by omega)
  repeat' (first | simp -implicitDefEqProofs only [syms, symx, seval, c35, w_lookup] | with_reducible_and_instances refine ixs_at s ds84 sz9 (by omega) hx0 (fun p hp => ?_) | with_reducible_and_instances refine ld_one hp ag9 ?_)
  refine lookK_rule (a := x0) m0 (fun _ => rfl) ds83 eqS zeroM_es (fun hin => ?_) (fun hin => ?_)
  all_goals
    repeat' (first | simp -implicitDefEqProofs only [syms, symx, seval, c35, lay_set, storeO_row, List.all_cons, List.all_nil, Am.one, Bool.and_true, Bool.true_and, Bool.and_self, List.set_cons_zero, List.set_cons_succ, st4, st3, st9, st33, st36, st46, st71, stM53] | ((with_reducible_and_instances apply unop_not); (· rfl)))
  · rw [hwj]
    refine loop_heapI (z.upW _ _ (by omega)) (fun H z hO hI => ?_)
    (rw [hI3]; with_reducible refine loopN_normal (m := _) ?_ ⟨j + 1, _, rfl, z, ⟨rfl, by omega, take_all (i := j) (P := fun x : ByteArray => x ∈ met) hx0' hall hin, m0.hold hO, s.mono hI⟩, junk (by kernel_rfl)⟩; omega)
  · exact h2k (fun hh => hin ((hmet x0).2 (hh x0 ((hm x0).1 (List.mem_of_getElem? hx0'))))) _ (z.upW _ _ (by omega))
theorem ok_oneM (c : ClauseD) (v : Value) (h : Heap) (hsp : SpaceAt 1 h) (hl : Sl Rep.atom h v c.body) (hn : c.body.length ≤ 1000) (K : Value → Heap → Prop) (h1k : OneX c → ∀ h', Ext h h' → K (.bool true) h') (h2k : ¬ OneX c → ∀ h', Ext h h' → K (.bool false) h') : Ok Tryd.prog tab ov 23 [.agg ⟨c.head.cells ++ [v]⟩] h K := by
  rw [lay_nil h]
  have z := Ext.refl h
  have hva := vSelf v
  have hlv := fun (hh : Heap) => hl.lenA ds23 hh
  refine Ok.into rfl tab_fn23 (bodyF N23) rfl (m := 19) rfl ?_
  repeat' ( simp -implicitDefEqProofs only [syms, symx, seval, c23, cells_atom, ↓cut_atom, ↓cutM_cl0, agg_atom, valE_atom, hva, callE_func])
  refine ok_one1M c.head _ (hsp.lay _ _) _ (fun h' x => ?_)
  have q0 := Holds.top (i := 0) x rfl
  ((skip); replace z := z.overW x (by (try simp only [lsz]); omega); (try replace m0 := m0.over x); (try replace s := s.over x); rw [lay_nil h'])
  obtain ⟨A0, hA0⟩ : ∃ A0, A0 = h.size + 0 := ⟨_, rfl⟩
  rw [← hA0] at q0
  rw [← hA0]
  cases hb : badA c.head
  rotate_left
  · repeat' (first | simp -implicitDefEqProofs only [syms, symx, seval, c23, Bool.not_true] | ((with_reducible_and_instances apply unop_not); (· rfl)))
    exact h2k (fun x => by unfold badA at hb; simp [x.head] at hb) _ (z.upW _ _ (by omega))
  have hhd : ValidX c.head := by unfold badA at hb; simpa using hb
  repeat' (first | simp -implicitDefEqProofs only [syms, symx, seval, c23, Bool.not_false, q0.lay, cellM_cl1, hva] | ((with_reducible_and_instances apply unop_not); (· rfl)))
  refine ok_containsAtomF c.body v _ badA _ ((hl.mono z.inc).lay _ _) hn (fun a hc K' xe hK => by rw [callE_func]; exact ok_one1M a hc (((hsp.ext z).lay _ _).ext xe) K' hK) _ (fun h' x => ?_)
  ((skip); replace z := z.overW x (by (try simp only [lsz]); omega); (try replace q0 := q0.over x); rw [lay_nil h'])
  cases hany : c.body.any badA
  rotate_left
  · repeat' (first | simp -implicitDefEqProofs only [syms, symx, seval, c23, Bool.not_true] | ((with_reducible_and_instances apply unop_not); (· rfl)))
    refine h2k (fun x => ?_) _ (z.upW _ _ (by omega))
    obtain ⟨t, ht, hb2⟩ := List.any_eq_true.1 hany
    unfold badA at hb2
    simp [x.body t ht] at hb2
  have hbd : ∀ b ∈ c.body, ValidX b := fun b hm => by
    have := List.any_eq_false.1 hany b hm
    unfold badA at this
    simpa using this
  repeat' (first | simp -implicitDefEqProofs only [syms, symx, seval, c23, Bool.not_false, q0.lay, ↓cutM_cl12] | ((with_reducible_and_instances apply unop_not); (· rfl)))
  refine ok_rangedM c v _ ((hl.mono z.inc).lay _ _) hn _ (fun hr h' x => ?_) (fun hr h' x => ?_)
  · ((skip); replace z := z.overW x (by (try simp only [lsz]); omega); (try replace q0 := q0.over x); rw [lay_nil h'])
    repeat' ( simp -implicitDefEqProofs only [syms, symx, seval, c23])
    exact h1k ⟨hhd, hbd, hr⟩ _ (z.upW _ _ (by omega))
  · ((skip); replace z := z.overW x (by (try simp only [lsz]); omega); (try replace q0 := q0.over x); rw [lay_nil h'])
    repeat' ( simp -implicitDefEqProofs only [syms, symx, seval, c23])
    exact h2k (fun x => hr x.ranged) _ (z.upW _ _ (by omega))
theorem ok_mayM (cl : List ClauseD) (facts : List AtomD) (v u : Value) (h : Heap) (hsp : SpaceAt 1 h) (hl : Sl Rep.clause h v cl) (hf : Sl Rep.atom h u facts) (hn : cl.length ≤ 1000) (hcb : ∀ c ∈ cl, c.body.length ≤ 1000) (hfn : facts.length ≤ 1000) (K : Value → Heap → Prop) (h1k : MayX cl facts → ∀ h', Ext h h' → K (.bool true) h') (h2k : ¬ MayX cl facts → ∀ h', Ext h h' → K (.bool false) h') : Ok Tryd.prog tab ov 16 [v, u] h K := by
  rw [lay_nil h]
  have z := Ext.refl h
  have hva := vSelf v
  have hvu := vSelf u
  have hlv := fun (hh : Heap) => hl.lenA ds22 hh
  have hlu := fun (hh : Heap) => hf.lenA ds23 hh
  refine Ok.into rfl tab_fn16 (bodyF N16) rfl (m := 27) rfl ?_
  simp -implicitDefEqProofs only [syms, symx, seval, c16, hva, hlv]
  obtain ⟨I1, hI1⟩ : ∃ I : Nat → Env → Heap → Prop, I = (fun n e h' => ∃ (i : Nat) (h1 : Heap), h' = h1.lay [] h1.low ∧ Ext h h1 ∧ (n = cl.length - i ∧ i ≤ cl.length ∧ (∀ c ∈ cl.take i, OneX c)) ∧ ∃ J : Nat → Value, e = (v :: u :: jr J 2 7 (v :: .int .i64 cl.length :: .int .i64 i :: jr J 12 17 ([])))) := ⟨_, rfl⟩
  refine W_loopN I1 _ (by rw [hI1]; exact ⟨0, _, rfl, z, ⟨rfl, by omega, by simp⟩, junk (by kernel_rfl)⟩) ?_
  intro n e h' hin
  rw [hI1] at hin
  obtain ⟨i, h1', rfl, z, hinv, J, rfl⟩ := hin
  obtain ⟨rfl, hi, hall⟩ := hinv
  have hw : IntKind.i64.wrap ((i : Int) + 1) = ((i + 1 : Nat) : Int) := by rw [wrap_i64 (by omega) (by omega)]; omega
  simp -implicitDefEqProofs only [syms, symx, seval, c16]
  refine forkD (fun hlt => ?_) (fun hlt => ?_)
  · obtain ⟨r, hr, hr'⟩ := amElem (l := cl) (i := i) (by omega)
    repeat' (first | simp -implicitDefEqProofs only [syms, symx, seval, c16] | with_reducible_and_instances refine ixc_at (hl.mono z.inc) ds22 sz46 (by omega) hr (fun p bd hbd hp => ?_) | with_reducible_and_instances refine ldc hp ag46 sz46 ?_)
    have hall1 := oneM_cl (a := r.head) hbd.one
    repeat' ( simp -implicitDefEqProofs only [syms, symx, seval, c16, lay_set, storeO_row, List.all_cons, List.all_nil, Am.one, Bool.and_true, Bool.true_and, Bool.and_self, List.set_cons_zero, List.set_cons_succ, st4, st3, st9, st33, st36, st46, st71, lenM_cl, hall1, decM12, dropM12, if_true, ↓cutM_cl12])
    refine ok_oneM r _ _ ((hsp.ext z).lay _ _) (Sl.lay (by assumption) _ _) (hcb r (List.mem_of_getElem? hr')) _ (fun ho h' x => ?_) (fun ho h' x => ?_)
    · ((skip); replace z := z.overW x (by (try simp only [lsz]); omega); rw [lay_nil h'])
      repeat' (first | simp -implicitDefEqProofs only [syms, symx, seval, c16, Bool.not_true] | ((with_reducible_and_instances apply unop_not); (· rfl)))
      rw [hw]
      (rw [hI1]; with_reducible refine loopN_normal (m := _) ?_ ⟨i + 1, _, rfl, z, ⟨rfl, by omega, take_all (i := i) (P := OneX) hr' hall ho⟩, junk (by kernel_rfl)⟩; omega)
    · ((skip); replace z := z.overW x (by (try simp only [lsz]); omega); rw [lay_nil h'])
      repeat' (first | simp -implicitDefEqProofs only [syms, symx, seval, c16, Bool.not_false] | ((with_reducible_and_instances apply unop_not); (· rfl)))
      exact h2k (fun x => ho (x.clauses r (List.mem_of_getElem? hr'))) _ (z.upW _ _ (by omega))
  rw [List.take_of_length_le (by omega)] at hall
  repeat' ( simp -implicitDefEqProofs only [syms, symx, seval, c16, hvu, hlu])
  obtain ⟨I2, hI2⟩ : ∃ I : Nat → Env → Heap → Prop, I = (fun n e h' => ∃ (k : Nat) (h1 : Heap), h' = h1.lay [] h1.low ∧ Ext h h1 ∧ (n = facts.length - k ∧ k ≤ facts.length ∧ (∀ a ∈ facts.take k, FactX a)) ∧ ∃ J : Nat → Value, e = (v :: u :: jr J 2 17 (u :: .int .i64 facts.length :: .int .i64 k :: jr J 22 7 ([])))) := ⟨_, rfl⟩
  refine W_loopN I2 _ (by rw [hI2]; exact ⟨0, _, rfl, z, ⟨rfl, by omega, by simp⟩, junk (by kernel_rfl)⟩) ?_
  intro n e h' hin
  rw [hI2] at hin
  obtain ⟨k, h1', rfl, z, hinv, J, rfl⟩ := hin
  obtain ⟨rfl, hk1, hfa⟩ := hinv
  have hwk : IntKind.i64.wrap ((k : Int) + 1) = ((k + 1 : Nat) : Int) := by rw [wrap_i64 (by omega) (by omega)]; omega
  simp -implicitDefEqProofs only [syms, symx, seval, c16]
  refine forkD (fun hlt2 => ?_) (fun hlt2 => ?_)
  rotate_left
  · rw [List.take_of_length_le (by omega)] at hfa
    repeat' ( simp -implicitDefEqProofs only [syms, symx, seval, c16])
    exact h1k ⟨hall, hfa⟩ _ (z.upW _ _ (by omega))
  obtain ⟨y, hy, hy'⟩ := amElem (l := facts) (i := k) (by omega)
  repeat' (first | simp -implicitDefEqProofs only [syms, symx, seval, c16, lay_set, storeO_row, List.all_cons, List.all_nil, Am.one, Bool.and_true, Bool.true_and, Bool.and_self, List.set_cons_zero, List.set_cons_succ, st4, st3, st9, st33, st36, st46, st71, cells_atom, siz_atom, len_atom, one_atom, drop11, dec11, List.append_nil, if_true, ↓cut_atom, agg_atom, valE_atom] | with_reducible_and_instances refine ixa_at (hf.mono z.inc) ds23 sz36 (by omega) hy (fun p hp => ?_) | with_reducible_and_instances refine lda hp ag36 sz36 ?_)
  refine ok_factM y _ ((hsp.ext z).lay _ _) _ (fun hv2 h' x => ?_) (fun hv2 h' x => ?_)
  · ((skip); replace z := z.overW x (by (try simp only [lsz]); omega); rw [lay_nil h'])
    repeat' (first | simp -implicitDefEqProofs only [syms, symx, seval, c16, Bool.not_true] | ((with_reducible_and_instances apply unop_not); (· rfl)))
    rw [hwk]
    (rw [hI2]; with_reducible refine loopN_normal (m := _) ?_ ⟨k + 1, _, rfl, z, ⟨rfl, by omega, take_all (i := k) (P := FactX) hy' hfa hv2⟩, junk (by kernel_rfl)⟩; omega)
  · ((skip); replace z := z.overW x (by (try simp only [lsz]); omega); rw [lay_nil h'])
    repeat' (first | simp -implicitDefEqProofs only [syms, symx, seval, c16, Bool.not_false] | ((with_reducible_and_instances apply unop_not); (· rfl)))
    exact h2k (fun x => hv2 (x.facts y (List.mem_of_getElem? hy'))) _ (z.upW _ _ (by omega))
end Go.Proofs.YtemapihoobmonaaDoor
