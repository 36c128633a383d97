/- Walks: the names of the document, exactly. Written out by fill2.py. No condition. -/
import Derived.Test.YtompindebndddaaG28
import Derived.Test.YtompindebndddaaZK15
import Derived.Test.YtompindebndddaaGReal
namespace Go.Proofs.Ytompindebndddaa
open Go.Am
set_option linter.unusedSimpArgs false
set_option linter.unusedVariables false
set_option maxRecDepth 100000
set_option maxHeartbeats 0
theorem ok_constantX (s : ByteArray) (h : Heap) (K : Value → Heap → Prop) (h1 : lowX s → ∀ h', Ext h h' → K (.bool true) h') (h2 : ¬ lowX s → ∀ h', Ext h h' → K (.bool false) h') : Ok Try.prog tab ov 174 [.string s] h K := by
  rw [lay_nil h]
  have z := Ext.refl h
  refine Ok.into rfl tab_fn174 (bodyF N174) rfl (m := 40) rfl ?_
  simp -implicitDefEqProofs only [syms, symx, seval, c174]
  refine forkD (fun c => ?_) (fun c1 => ?_)
  · simp -implicitDefEqProofs only [syms, symx, seval, c174]
    exact h2 (fun x => by have := x.pos; omega) _ (z.upW _ _ (by omega))
  simp -implicitDefEqProofs only [syms, symx, seval, c174]
  refine forkD (fun c => ?_) (fun c2 => ?_)
  · simp -implicitDefEqProofs only [syms, symx, seval, c174]
    exact h2 (fun x => by have := x.len; omega) _ (z.upW _ _ (by omega))
  simp -implicitDefEqProofs only [syms, symx, seval, c174]
  refine index_str Try.underlying9 rfl rfl (by omega) (by omega) ?_
  simp -implicitDefEqProofs only [syms, symx, seval, c174]
  refine forkB (fun c => ?_) (fun c3 => ?_)
  · simp -implicitDefEqProofs only [syms, symx, seval, c174]
    exact h2 (fun x => x.first (by simpa using c)) _ (z.upW _ _ (by omega))
  repeat' ( simp -implicitDefEqProofs only [syms, symx, seval, c174])
  obtain ⟨I1, hI1⟩ : ∃ I : Nat → Env → Heap → Prop, I = (fun n e h' => ∃ (i : Nat) (h1 : Heap), h' = h1.lay [] h1.low ∧ Ext h h1 ∧ (n = s.size - i ∧ i ≤ s.size ∧ ∀ j, j < i → lowCh (byteAt s j)) ∧ ∃ J : Nat → Value, e = (.string s :: jr J 1 2 (.int .i64 i :: jr J 4 37 ([])))) := ⟨_, rfl⟩
  refine W_loopN I1 _ (by rw [hI1]; exact ⟨0, _, rfl, z, ⟨rfl, by omega, fun j hj => by omega⟩, junk (by kernel_rfl)⟩) ?_
  intro n e h' hin
  rw [hI1] at hin
  obtain ⟨i, h1', rfl, z, hinv, J, rfl⟩ := hin
  obtain ⟨rfl, hi, hall⟩ := hinv
  have hw : IntKind.i64.wrap ((i : Int) + 1) = ((i + 1 : Nat) : Int) := by rw [wrap_i64 (by omega) (by omega)]; omega
  simp -implicitDefEqProofs only [syms, symx, seval, c174, hw]
  repeat' ((first | ((with_reducible first | apply forkD | apply forkN ) <;> intro _) | with_reducible_and_instances refine ok_small _ _ _ (fun _ => ?_) (fun _ => ?_) | with_reducible_and_instances refine ok_digit _ _ _ (fun _ => ?_) (fun _ => ?_) | ((with_reducible_and_instances apply index_str); (· exact Try.underlying9); (· rfl); (· rfl); (· omega); (·  omega )) | ((with_reducible_and_instances apply unop_not); (· rfl))) <;> simp -implicitDefEqProofs only [syms, symx, seval, c174, hw])
  all_goals first
    | (with_reducible refine h2 (fun x => ?_) _ (z.upW _ _ (by omega))
       have hx := x.all i (by omega)
       unfold lowCh at hx
       omega)
    | (with_reducible refine h1 ?_ _ (z.upW _ _ (by omega))
       exact ⟨by omega, by omega, by simpa using c3, fun j hj => hall j (by omega)⟩)
    | (have hnx : ∀ j, j < i + 1 → lowCh (byteAt s j) := by
         intro j hj
         by_cases hji : j < i
         · exact hall j hji
         · have : j = i := by omega
           subst this
           unfold lowCh
           omega
       (rw [hI1]; with_reducible refine loopN_normal (m := _) ?_ ⟨i + 1, _, rfl, z, ⟨rfl, by omega, hnx⟩, junk (by kernel_rfl)⟩; omega))
theorem ok_variableX (s : ByteArray) (h : Heap) (K : Value → Heap → Prop) (h1 : varX s → ∀ h', Ext h h' → K (.bool true) h') (h2 : ¬ varX s → ∀ h', Ext h h' → K (.bool false) h') : Ok Try.prog tab ov 144 [.string s] h K := by
  rw [lay_nil h]
  have z := Ext.refl h
  refine Ok.into rfl tab_fn144 (bodyF N144) rfl (m := 48) rfl ?_
  simp -implicitDefEqProofs only [syms, symx, seval, c144]
  refine forkD (fun c => ?_) (fun c1 => ?_)
  · simp -implicitDefEqProofs only [syms, symx, seval, c144]
    exact h2 (fun x => by have := x.pos; omega) _ (z.upW _ _ (by omega))
  simp -implicitDefEqProofs only [syms, symx, seval, c144]
  refine forkD (fun c => ?_) (fun c2 => ?_)
  · simp -implicitDefEqProofs only [syms, symx, seval, c144]
    exact h2 (fun x => by have := x.len; omega) _ (z.upW _ _ (by omega))
  simp -implicitDefEqProofs only [syms, symx, seval, c144]
  refine index_str Try.underlying9 rfl rfl (by omega) (by omega) ?_
  simp -implicitDefEqProofs only [syms, symx, seval, c144]
  refine ok_great _ _ _ (fun cg => ?_) (fun cg => ?_)
  rotate_left
  · repeat' (first | simp -implicitDefEqProofs only [syms, symx, seval, c144] | ((with_reducible_and_instances apply unop_not); (· rfl)))
    exact h2 (fun x => cg (by simpa using x.first)) _ (z.upW _ _ (by omega))
  repeat' (first | simp -implicitDefEqProofs only [syms, symx, seval, c144] | ((with_reducible_and_instances apply unop_not); (· rfl)))
  obtain ⟨I1, hI1⟩ : ∃ I : Nat → Env → Heap → Prop, I = (fun n e h' => ∃ (i : Nat) (h1 : Heap), h' = h1.lay [] h1.low ∧ Ext h h1 ∧ (n = s.size - i ∧ i ≤ s.size ∧ ∀ j, j < i → okCh (byteAt s j)) ∧ ∃ J : Nat → Value, e = (.string s :: jr J 1 2 (.int .i64 i :: jr J 4 45 ([])))) := ⟨_, rfl⟩
  refine W_loopN I1 _ (by rw [hI1]; exact ⟨0, _, rfl, z, ⟨rfl, by omega, fun j hj => by omega⟩, junk (by kernel_rfl)⟩) ?_
  intro n e h' hin
  rw [hI1] at hin
  obtain ⟨i, h1', rfl, z, hinv, J, rfl⟩ := hin
  obtain ⟨rfl, hi, hall⟩ := hinv
  have hw : IntKind.i64.wrap ((i : Int) + 1) = ((i + 1 : Nat) : Int) := by rw [wrap_i64 (by omega) (by omega)]; omega
  simp -implicitDefEqProofs only [syms, symx, seval, c144, hw]
  repeat' ((first | ((with_reducible first | apply forkD | apply forkN ) <;> intro _) | with_reducible_and_instances refine ok_small _ _ _ (fun _ => ?_) (fun _ => ?_) | with_reducible_and_instances refine ok_digit _ _ _ (fun _ => ?_) (fun _ => ?_) | with_reducible_and_instances refine ok_great _ _ _ (fun _ => ?_) (fun _ => ?_) | ((with_reducible_and_instances apply index_str); (· exact Try.underlying9); (· rfl); (· rfl); (· omega); (·  omega )) | ((with_reducible_and_instances apply unop_not); (· rfl))) <;> simp -implicitDefEqProofs only [syms, symx, seval, c144, hw])
  all_goals first
    | (with_reducible refine h2 (fun x => ?_) _ (z.upW _ _ (by omega))
       have hx := x.all i (by omega)
       unfold okCh at hx
       omega)
    | (with_reducible refine h1 ?_ _ (z.upW _ _ (by omega))
       exact ⟨by omega, by omega, by simpa using cg, fun j hj => hall j (by omega)⟩)
    | (have hnx : ∀ j, j < i + 1 → okCh (byteAt s j) := by
         intro j hj
         by_cases hji : j < i
         · exact hall j hji
         · have : j = i := by omega
           subst this
           unfold okCh
           omega
       (rw [hI1]; with_reducible refine loopN_normal (m := _) ?_ ⟨i + 1, _, rfl, z, ⟨rfl, by omega, hnx⟩, junk (by kernel_rfl)⟩; omega))
theorem ok_reservedX (s : ByteArray) (h : Heap) (K : Value → Heap → Prop) (h1 : resP s → ∀ h', Ext h h' → K (.bool true) h') (h2 : ¬ resP s → ∀ h', Ext h h' → K (.bool false) h') : Ok Try.prog tab ov 175 [.string s] h K := by
  rw [lay_nil h]
  have z := Ext.refl h
  unfold resP at h1 h2
  refine Ok.into rfl tab_fn175 (bodyF N175) rfl (m := 17) rfl ?_
  simp -implicitDefEqProofs only [syms, symx, seval, c175, c210]
  refine Ok.into rfl tab_fn210 (bodyF N210) rfl (m := 2) rfl ?_
  simp -implicitDefEqProofs only [syms, symx, seval, c175, c210]
  repeat' ((first | ((with_reducible  apply forkD ) <;> intro _) | with_reducible_and_instances refine W_unroll ?_) <;> simp -implicitDefEqProofs only [syms, symx, seval, c175, c210])
  all_goals first
    | (with_reducible refine h1 ?_ _ (z.upW _ _ (by omega))
       first
         | exact .inl (by assumption)
         | exact .inr (.inl (by assumption))
         | exact .inr (.inr (.inl (by assumption)))
         | exact .inr (.inr (.inr (.inl (by assumption))))
         | exact .inr (.inr (.inr (.inr (.inl (by assumption)))))
         | exact .inr (.inr (.inr (.inr (.inr (.inl (by assumption))))))
         | exact .inr (.inr (.inr (.inr (.inr (.inr (.inl (by assumption)))))))
         | exact .inr (.inr (.inr (.inr (.inr (.inr (.inr (by assumption))))))))
    | (with_reducible refine h2 ?_ _ (z.upW _ _ (by omega))
       rintro (e | e | e | e | e | e | e | e) <;> exact absurd e (by assumption))
theorem ok_constX (s : ByteArray) (h : Heap) (K : Value → Heap → Prop) (h1 : constX s → ∀ h', Ext h h' → K (.bool true) h') (h2 : ¬ constX s → ∀ h', Ext h h' → K (.bool false) h') : Ok Try.prog tab ov 142 [.string s] h K := by
  rw [lay_nil h]
  have z := Ext.refl h
  refine Ok.into rfl tab_fn142 (bodyF N142) rfl (m := 9) rfl ?_
  simp -implicitDefEqProofs only [syms, symx, seval, c142]
  refine ok_constantX _ _ _ (fun hs h' x => ?_) (fun hs h' x => ?_)
  · ((skip); replace z := z.overW x (by (try simp only [lsz]); omega); rw [lay_nil h'])
    simp -implicitDefEqProofs only [syms, symx, seval, c142]
    refine ok_reservedX _ _ _ (fun hr h' x => ?_) (fun hr h' x => ?_)
    · ((skip); replace z := z.overW x (by (try simp only [lsz]); omega); rw [lay_nil h'])
      repeat' (first | simp -implicitDefEqProofs only [syms, symx, seval, c142] | ((with_reducible_and_instances apply unop_not); (· rfl)))
      exact h2 (fun x => x.2 hr) _ (z.upW _ _ (by omega))
    · ((skip); replace z := z.overW x (by (try simp only [lsz]); omega); rw [lay_nil h'])
      repeat' (first | simp -implicitDefEqProofs only [syms, symx, seval, c142] | ((with_reducible_and_instances apply unop_not); (· rfl)))
      exact h1 ⟨hs, hr⟩ _ (z.upW _ _ (by omega))
  · ((skip); replace z := z.overW x (by (try simp only [lsz]); omega); rw [lay_nil h'])
    simp -implicitDefEqProofs only [syms, symx, seval, c142]
    exact h2 (fun x => hs x.1) _ (z.upW _ _ (by omega))
theorem ok_prinX (s : ByteArray) (h : Heap) (K : Value → Heap → Prop) (h1 : prinX s → ∀ h', Ext h h' → K (.bool true) h') (h2 : ¬ prinX s → ∀ h', Ext h h' → K (.bool false) h') : Ok Try.prog tab ov 86 [.string s] h K := by
  rw [lay_nil h]
  have z := Ext.refl h
  refine Ok.into rfl tab_fn86 (bodyF N86) rfl (m := 9) rfl ?_
  simp -implicitDefEqProofs only [syms, symx, seval, c86]
  refine ok_constX _ _ _ (fun hs h' x => ?_) (fun hs h' x => ?_)
  · ((skip); replace z := z.overW x (by (try simp only [lsz]); omega); rw [lay_nil h'])
    have := hs.1.pos
    simp -implicitDefEqProofs only [syms, symx, seval, c86]
    refine index_str Try.underlying9 rfl rfl (by omega) (by omega) ?_
    simp -implicitDefEqProofs only [syms, symx, seval, c86]
    refine ok_small _ _ _ (fun cg => ?_) (fun cg => ?_)
    · repeat' ( simp -implicitDefEqProofs only [syms, symx, seval, c86])
      exact h1 ⟨hs, by simpa using cg⟩ _ (z.upW _ _ (by omega))
    · repeat' ( simp -implicitDefEqProofs only [syms, symx, seval, c86])
      exact h2 (fun x => cg (by simpa using x.2)) _ (z.upW _ _ (by omega))
  · ((skip); replace z := z.overW x (by (try simp only [lsz]); omega); rw [lay_nil h'])
    simp -implicitDefEqProofs only [syms, symx, seval, c86]
    exact h2 (fun x => hs x.1) _ (z.upW _ _ (by omega))
theorem ok_predX (s : ByteArray) (h : Heap) (K : Value → Heap → Prop) (h1 : prinX s → ∀ h', Ext h h' → K (.bool true) h') (h2 : ¬ prinX s → ∀ h', Ext h h' → K (.bool false) h') : Ok Try.prog tab ov 87 [.string s] h K := by
  rw [lay_nil h]
  have z := Ext.refl h
  refine Ok.into rfl tab_fn87 (bodyF N87) rfl (m := 4) rfl ?_
  simp -implicitDefEqProofs only [syms, symx, seval, c87]
  refine ok_prinX _ _ _ (fun hs h' x => ?_) (fun hs h' x => ?_)
  · ((skip); replace z := z.overW x (by (try simp only [lsz]); omega); rw [lay_nil h'])
    simp -implicitDefEqProofs only [syms, symx, seval, c87]
    exact h1 hs _ (z.upW _ _ (by omega))
  · ((skip); replace z := z.overW x (by (try simp only [lsz]); omega); rw [lay_nil h'])
    simp -implicitDefEqProofs only [syms, symx, seval, c87]
    exact h2 hs _ (z.upW _ _ (by omega))
theorem ok_termX (t : TermD) (h : Heap) (K : Value → Heap → Prop) (h1 : termX t → ∀ h', Ext h h' → K (.bool true) h') (h2 : ¬ termX t → ∀ h', Ext h h' → K (.bool false) h') : Ok Try.prog tab ov 88 [t.val] h K := by
  rw [lay_nil h]
  have z := Ext.refl h
  rcases t with ⟨tv, ts⟩
  unfold termX at h1 h2
  cases tv
  · refine Ok.into rfl tab_fn88 (bodyF N88) rfl (m := 10) rfl ?_
    simp -implicitDefEqProofs only [syms, symx, seval, c88, TermD.val, TermD.cells]
    refine ok_constX _ _ _ (fun hs h' x => ?_) (fun hs h' x => ?_)
    all_goals
      ((skip); replace z := z.overW x (by (try simp only [lsz]); omega); rw [lay_nil h'])
      simp -implicitDefEqProofs only [syms, symx, seval, c88]
      first
        | exact h1 hs _ (z.upW _ _ (by omega))
        | exact h2 hs _ (z.upW _ _ (by omega))
  · refine Ok.into rfl tab_fn88 (bodyF N88) rfl (m := 10) rfl ?_
    simp -implicitDefEqProofs only [syms, symx, seval, c88, TermD.val, TermD.cells]
    refine ok_variableX _ _ _ (fun hs h' x => ?_) (fun hs h' x => ?_)
    all_goals
      ((skip); replace z := z.overW x (by (try simp only [lsz]); omega); rw [lay_nil h'])
      simp -implicitDefEqProofs only [syms, symx, seval, c88]
      first
        | exact h1 hs _ (z.upW _ _ (by omega))
        | exact h2 hs _ (z.upW _ _ (by omega))
theorem ok_checkX (a : AtomD) (h : Heap) (K : Value → Heap → Prop) (h1 : ValidX a → ∀ h', Ext h h' → K (.int .i64 0) h') (h2 : ¬ ValidX a → ∀ c h', c ≠ 0 → Ext h h' → K (.int .i64 c) h') : Ok Try.prog tab ov 29 [a.val] h K := by
  rw [lay_nil h]
  have z := Ext.refl h
  refine Ok.into rfl tab_fn29 (bodyF N29) rfl (m := 46) rfl ?_
  repeat' ( simp -implicitDefEqProofs only [syms, symx, seval, c29, cells_atom, cell_v0, cell_v1, cell_v2])
  refine ok_prinX _ _ _ (fun hs h' x => ?_) (fun hs h' x => ?_)
  rotate_left
  · ((skip); replace z := z.overW x (by (try simp only [lsz]); omega); rw [lay_nil h'])
    repeat' (first | simp -implicitDefEqProofs only [syms, symx, seval, c29] | ((with_reducible_and_instances apply unop_not); (· rfl)))
    exact h2 (fun x => hs x.says) _ _ (by decide) (z.upW _ _ (by omega))
  have q0 := Holds.top (i := 0) x rfl
  (replace z := z.overW x (by (try simp only [lay_size, List.length_cons, List.length_nil]); omega); rw [lay_nil h'])
  repeat' (first | simp -implicitDefEqProofs only [syms, symx, seval, c29, q0.lay, cell_v0, cell_v1, cell_v2] | ((with_reducible_and_instances apply unop_not); (· rfl)))
  refine ok_predX _ _ _ (fun hp h' x => ?_) (fun hp h' x => ?_)
  rotate_left
  · ((skip); replace z := z.overW x (by (try simp only [lsz]); omega); (try replace q0 := q0.over x); rw [lay_nil h'])
    repeat' (first | simp -implicitDefEqProofs only [syms, symx, seval, c29] | ((with_reducible_and_instances apply unop_not); (· rfl)))
    exact h2 (fun x => hp x.pred) _ _ (by decide) (z.upW _ _ (by omega))
  ((skip); replace z := z.overW x (by (try simp only [lsz]); omega); (try replace q0 := q0.over x); rw [lay_nil h'])
  repeat' (first | simp -implicitDefEqProofs only [syms, symx, seval, c29, q0.lay, cell_v0, cell_v1, cell_v2] | ((with_reducible  apply forkD ) <;> intro _) | ((with_reducible_and_instances apply unop_not); (· rfl)))
  all_goals try exact h2 (fun x => by have := x.lo; have := x.hi; omega) _ _ (by decide) (z.upW _ _ (by omega))
  have hn0 : 0 ≤ a.n := by omega
  have hn4 : a.n ≤ 4 := by omega
  obtain ⟨I1, hI1⟩ : ∃ I : Nat → Env → Heap → Prop, I = (fun n e h' => ∃ (i : Nat) (h1 : Heap), h' = h1.lay [] h1.low ∧ Ext h h1 ∧ (n = 4 - i ∧ (i : Int) ≤ a.n ∧ (∀ j, j < i → termX (a.arg j)) ∧ Holds h1 (h.size + 0) (.row a.cells 39 false)) ∧ ∃ J : Nat → Value, e = (J 0 :: .pointer (some ⟨h.size + 0, 0, none⟩) :: J 2 :: .int .i64 i :: jr J 4 43 ([]))) := ⟨_, rfl⟩
  refine W_loopN I1 _ (by rw [hI1]; exact ⟨0, _, rfl, z, ⟨rfl, by omega, fun j hj => by omega, q0⟩, junk (by kernel_rfl)⟩) ?_
  intro n e h' hin
  rw [hI1] at hin
  obtain ⟨i, h1', rfl, z, hinv, J, rfl⟩ := hin
  clear q0
  obtain ⟨rfl, hi, hall, q0⟩ := hinv
  have hwi : IntKind.i64.wrap ((i : Int) + 1) = ((i + 1 : Nat) : Int) := by rw [wrap_i64 (by omega) (by omega)]; omega
  simp -implicitDefEqProofs only [syms, symx, seval, c29, q0.lay, cell_v2]
  refine forkD (fun hlt => ?_) (fun hlt => ?_)
  · have hin4 : (0 : Int) ≤ (i : Int) ∧ (i : Int) < 4 := by omega
    have hca := cut_argV a i (by omega)
    repeat' ( simp -implicitDefEqProofs only [syms, symx, seval, c29, q0.lay, hin4, ↓hca, agg_term2, valE_term, and_self, if_true])
    refine ok_termX _ _ _ (fun ht h' x => ?_) (fun ht h' x => ?_)
    · ((skip); replace z := z.overW x (by (try simp only [lsz]); omega); (try replace q0 := q0.over x); rw [lay_nil h'])
      have hnx : ∀ j, j < i + 1 → termX (a.arg j) := by
        intro j hj
        by_cases hji : j < i
        · exact hall j hji
        · have : j = i := by omega
          subst this
          exact ht
      repeat' (first | simp -implicitDefEqProofs only [syms, symx, seval, c29] | ((with_reducible_and_instances apply unop_not); (· rfl)))
      rw [hwi]
      (rw [hI1]; with_reducible refine loopN_normal (m := _) ?_ ⟨i + 1, _, rfl, z, ⟨rfl, by omega, hnx, q0⟩, junk (by kernel_rfl)⟩; omega)
    · ((skip); replace z := z.overW x (by (try simp only [lsz]); omega); (try replace q0 := q0.over x); rw [lay_nil h'])
      repeat' (first | simp -implicitDefEqProofs only [syms, symx, seval, c29] | ((with_reducible_and_instances apply unop_not); (· rfl)))
      exact h2 (fun x => ht (x.terms i (by omega))) _ _ (by decide) (z.upW _ _ (by omega))
  have hin : a.n = (i : Int) := by omega
  repeat' ( simp -implicitDefEqProofs only [syms, symx, seval, c29, q0.lay, cell_v2])
  rw [hin]
  obtain ⟨I2, hI2⟩ : ∃ I : Nat → Env → Heap → Prop, I = (fun n e h' => ∃ (k : Nat) (h1 : Heap), h' = h1.lay [] h1.low ∧ Ext h h1 ∧ (n = 4 - k ∧ i ≤ k ∧ k ≤ 4 ∧ (∀ j, i ≤ j → j < k → a.arg j = noTermD) ∧ Holds h1 (h.size + 0) (.row a.cells 39 false)) ∧ ∃ J : Nat → Value, e = (J 0 :: .pointer (some ⟨h.size + 0, 0, none⟩) :: jr J 2 2 (.int .i64 k :: jr J 5 42 ([])))) := ⟨_, rfl⟩
  refine W_loopN I2 _ (by rw [hI2]; exact ⟨i, _, rfl, z, ⟨rfl, by omega, by omega, fun j h1 h2 => by omega, q0⟩, junk (by kernel_rfl)⟩) ?_
  intro n e h' hin
  rw [hI2] at hin
  obtain ⟨k, h2', rfl, z, hinv, J, rfl⟩ := hin
  clear q0
  obtain ⟨rfl, hik, hk4, hrest, q0⟩ := hinv
  have hwk : IntKind.i64.wrap ((k : Int) + 1) = ((k + 1 : Nat) : Int) := by rw [wrap_i64 (by omega) (by omega)]; omega
  simp -implicitDefEqProofs only [syms, symx, seval, c29]
  refine forkD (fun hlt => ?_) (fun hlt => ?_)
  rotate_left
  · repeat' ( simp -implicitDefEqProofs only [syms, symx, seval, c29])
    exact h1 ⟨hs, hp, by omega, by omega, fun j hj => hall j (by omega), fun j h1 h2 => hrest j (by omega) (by omega)⟩ _ (z.upW _ _ (by omega))
  have hin4 : (0 : Int) ≤ (k : Int) ∧ (k : Int) < 4 := by omega
  have hca := cut_argV a k (by omega)
  simp -implicitDefEqProofs only [syms, symx, seval, c29, q0.lay, hin4, ↓hca, agg_term2, valE_term, and_self, if_true, bld_noT, bin_termN]
  refine forkNP (fun hne => ?_) (fun heq => ?_)
  · repeat' ( simp -implicitDefEqProofs only [syms, symx, seval, c29])
    exact h2 (fun x => hne (x.rest k (by omega) (by omega))) _ _ (by decide) (z.upW _ _ (by omega))
  · have hnx : ∀ j, i ≤ j → j < k + 1 → a.arg j = noTermD := by
      intro j h1 h2
      by_cases hji : j < k
      · exact hrest j h1 hji
      · have : j = k := by omega
        subst this
        exact heq
    repeat' ( simp -implicitDefEqProofs only [syms, symx, seval, c29])
    rw [hwk]
    (rw [hI2]; with_reducible refine loopN_normal (m := _) ?_ ⟨k + 1, _, rfl, z, ⟨rfl, by omega, by omega, hnx, q0⟩, junk (by kernel_rfl)⟩; omega)
end Go.Proofs.Ytompindebndddaa
