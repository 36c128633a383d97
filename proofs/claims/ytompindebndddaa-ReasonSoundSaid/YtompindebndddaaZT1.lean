/- Walks: ground atoms, variables, clauses and facts that may be, by the document. Written out by fill2.py. No condition. -/
import Derived.Test.YtompindebndddaaZT0
import Derived.Test.YtompindebndddaaG33
namespace Go.Proofs.Ytompindebndddaa
open Go.Am
set_option linter.unusedSimpArgs false
set_option linter.unusedVariables false
set_option maxRecDepth 100000
set_option maxHeartbeats 0
theorem cellX_argB (a : AtomD) (i : Nat) (hi : i < 4) : a.cells[3 + i * 2 + 0]? = some (.bool (a.arg i).v) := by
  have : i = 0 ∨ i = 1 ∨ i = 2 ∨ i = 3 := by omega
  rcases this with rfl | rfl | rfl | rfl <;> rfl
theorem cellX_argS (a : AtomD) (i : Nat) (hi : i < 4) : a.cells[3 + i * 2 + 1]? = some (.string (a.arg i).s) := by
  have : i = 0 ∨ i = 1 ∨ i = 2 ∨ i = 3 := by omega
  rcases this with rfl | rfl | rfl | rfl <;> rfl
theorem bx_tt : binA Try.prog tab .eql 4 (.bool true) (.bool true) = some (.bool true) := by kernel_rfl
theorem bx_tf : binA Try.prog tab .eql 4 (.bool true) (.bool false) = some (.bool false) := by kernel_rfl
theorem bx_ft : binA Try.prog tab .eql 4 (.bool false) (.bool true) = some (.bool false) := by kernel_rfl
theorem bx_ff : binA Try.prog tab .eql 4 (.bool false) (.bool false) = some (.bool true) := by kernel_rfl
theorem cutX_cl0 (a : AtomD) (u : Value) : cut (a.cells ++ [u]) 0 11 = some a.cells := rfl
theorem cutX_cl12 (a : AtomD) (u : Value) : cut (a.cells ++ [u]) 0 12 = some (a.cells ++ [u]) := rfl
theorem cellX_cl1 (a : AtomD) (u : Value) : (a.cells ++ [u])[11]? = some u := rfl
theorem ok_groundX (a : AtomD) (h : Heap) (K : Value → Heap → Prop) (hk : ∀ h', Ext h h' → K (.bool a.ground) h') : Ok Try.prog tab ov 131 [a.val] h K := by
  rw [lay_nil h]
  have z := Ext.refl h
  have hcn : a.cnt ≤ 4 := by unfold AtomD.cnt; omega
  refine Ok.into rfl tab_fn131 (bodyF N131) rfl (m := 14) rfl ?_
  repeat' ( simp -implicitDefEqProofs only [syms, symx, seval, c131, cells_atom])
  refine W_fold (fun h' x hq => ?_)
  have q0 := hq 0 _ rfl
  clear hq
  (replace z := z.overW x (by (try simp only [lsz]); omega); rw [lay_nil h'])
  obtain ⟨A0, hA0⟩ : ∃ A0, A0 = h.size + 0 := ⟨_, rfl⟩
  rw [← hA0] at q0
  rw [← hA0]
  obtain ⟨I1, hI1⟩ : ∃ I : Nat → Env → Heap → Prop, I = (fun n e h' => ∃ (i : Nat) (h1 : Heap), h' = h1.lay [] h1.low ∧ Ext h h1 ∧ (n = a.cnt - i ∧ i ≤ a.cnt ∧ (∀ j, j < i → (a.arg j).v = false) ∧ Holds h1 A0 (.row a.cells 39 false)) ∧ ∃ J : Nat → Value, e = (J 0 :: .pointer (some ⟨A0, 0, none⟩) :: J 2 :: .int .i64 i :: jr J 4 11 ([]))) := ⟨_, rfl⟩
  refine W_loopN I1 _ (by rw [hI1]; exact ⟨0, _, rfl, z, ⟨rfl, by omega, fun j hj => by omega, q0⟩, junk (by kernel_rfl)⟩) ?_
  intro n e h' hin
  rw [hI1] at hin
  obtain ⟨i, h1', rfl, z, hinv, J, rfl⟩ := hin
  clear q0
  obtain ⟨rfl, hi, hall, q0⟩ := hinv
  have hw : IntKind.i64.wrap ((i : Int) + 1) = ((i + 1 : Nat) : Int) := by rw [wrap_i64 (by omega) (by omega)]; omega
  simp -implicitDefEqProofs only [syms, symx, seval, c131, q0.lay, ↓cut_atom, agg_atom, valE_atom]
  refine ok_count a _ _ (fun h' x => ?_)
  ((skip); replace z := z.overW x (by (try simp only [lsz]); omega); (try replace q0 := q0.over x); rw [lay_nil h'])
  simp -implicitDefEqProofs only [syms, symx, seval, c131]
  refine forkD (fun hlt => ?_) (fun hlt => ?_)
  rotate_left
  · have hg : a.ground = true := ground_iff.2 (fun j hj => hall j (by omega))
    rw [hg] at hk
    repeat' ( simp -implicitDefEqProofs only [syms, symx, seval, c131])
    exact hk _ (z.upW _ _ (by omega))
  have hi4 : (0 : Int) ≤ (i : Int) ∧ (i : Int) < 4 := by omega
  have hcB := cellX_argB a i (by omega)
  obtain ⟨vb, hvb⟩ : ∃ vb, (a.arg i).v = vb := ⟨_, rfl⟩
  rw [hvb] at hcB
  cases vb
  · repeat' ( simp -implicitDefEqProofs only [syms, symx, seval, c131, q0.lay, hi4, and_self, if_true, hcB])
    rw [hw]
    have hnx : ∀ j, j < i + 1 → (a.arg j).v = false := by
      intro j hj
      by_cases hji : j < i
      · exact hall j hji
      · have : j = i := by omega
        subst this
        exact hvb
    (rw [hI1]; with_reducible refine loopN_normal (m := _) ?_ ⟨i + 1, _, rfl, z, ⟨rfl, by omega, hnx, q0⟩, junk (by kernel_rfl)⟩; omega)
  · have hg : a.ground = false := by
      cases hgg : a.ground
      · rfl
      · rw [ground_iff.1 hgg i (by omega)] at hvb
        cases hvb
    rw [hg] at hk
    repeat' ( simp -implicitDefEqProofs only [syms, symx, seval, c131, q0.lay, hi4, and_self, if_true, hcB])
    exact hk _ (z.upW _ _ (by omega))
theorem ok_factX (a : AtomD) (h : Heap) (K : Value → Heap → Prop) (h1k : FactX a → ∀ h', Ext h h' → K (.bool true) h') (h2k : ¬ FactX a → ∀ h', Ext h h' → K (.bool false) h') : Ok Try.prog tab ov 76 [a.val] h K := by
  rw [lay_nil h]
  have z := Ext.refl h
  refine Ok.into rfl tab_fn76 (bodyF N76) rfl (m := 9) rfl ?_
  repeat' ( simp -implicitDefEqProofs only [syms, symx, seval, c76, cells_atom, ↓cut_atom, agg_atom, valE_atom])
  refine ok_checkX a _ _ (fun hv h' x => ?_) (fun hv c h' hc x => ?_)
  · have q0 := Holds.top (i := 0) x rfl
    ((skip); replace z := z.overW x (by (try simp only [lsz]); omega); rw [lay_nil h'])
    repeat' ( simp -implicitDefEqProofs only [syms, symx, seval, c76, q0.lay, ↓cut_atom, agg_atom, valE_atom])
    refine ok_groundX a _ _ (fun h' x => ?_)
    ((skip); replace z := z.overW x (by (try simp only [lsz]); omega); (try replace q0 := q0.over x); rw [lay_nil h'])
    cases hg : a.ground
    · repeat' ( simp -implicitDefEqProofs only [syms, symx, seval, c76])
      exact h2k (fun x => by rw [x.ground] at hg; cases hg) _ (z.upW _ _ (by omega))
    · repeat' ( simp -implicitDefEqProofs only [syms, symx, seval, c76])
      exact h1k ⟨hv, hg⟩ _ (z.upW _ _ (by omega))
  · ((skip); replace z := z.overW x (by (try simp only [lsz]); omega); (try replace q0 := q0.over x); rw [lay_nil h'])
    repeat' (first | simp -implicitDefEqProofs only [syms, symx, seval, c76] | ((with_reducible  apply forkB ) <;> intro _))
    · exact absurd (by assumption) hc
    · exact h2k (fun x => hv x.valid) _ (z.upW _ _ (by omega))
theorem ok_namesX (a : AtomD) (bv : Bool) (h : Heap) (K : Value → Heap → Prop) (hk : ∀ w l h', Ext h h' → Sl Rep.str h' w l → l.length ≤ 4 → (∀ x, x ∈ l ↔ ∃ i : Nat, i < a.cnt ∧ (a.arg i).v = bv ∧ (a.arg i).s = x) → K w h') : Ok Try.prog tab ov 180 [a.val, .bool bv] h K := by
  rw [lay_nil h]
  have z := Ext.refl h
  have hcn : a.cnt ≤ 4 := by unfold AtomD.cnt; omega
  refine Ok.into rfl tab_fn180 (bodyF N180) rfl (m := 50) rfl ?_
  repeat' ( simp -implicitDefEqProofs only [syms, symx, seval, c180, cells_atom])
  refine W_fold (fun h' x hq => ?_)
  have q0 := hq 0 _ rfl
  clear hq
  (replace z := z.overW x (by (try simp only [lsz]); omega); rw [lay_nil h'])
  have hz0 := z.size
  obtain ⟨A0, hA0⟩ : ∃ A0, A0 = h.size + 0 := ⟨_, rfl⟩
  rw [← hA0] at q0
  rw [← hA0]
  have q0l := q0.lt
  obtain ⟨I1, hI1⟩ : ∃ I : Nat → Env → Heap → Prop, I = (fun n e h' => ∃ (i : Nat) (wv : Value) (A : Nat) (l : List ByteArray) (h1 : Heap), h' = h1.lay [] h1.low ∧ Ext h h1 ∧ (n = a.cnt - i ∧ i ≤ a.cnt ∧ l.length ≤ i ∧ (∀ x, x ∈ l ↔ ∃ j : Nat, j < i ∧ (a.arg j).v = bv ∧ (a.arg j).s = x) ∧ Ow Rep.str h h1 9 A wv l ∧ A ≠ A0 ∧ Holds h1 A0 (.row a.cells 39 false)) ∧ ∃ J : Nat → Value, e = (J 0 :: .bool bv :: .pointer (some ⟨A0, 0, none⟩) :: jr J 3 2 (wv :: .int .i64 i :: jr J 7 45 ([])))) := ⟨_, rfl⟩
  refine W_loopN I1 _ (by rw [hI1]; exact ⟨0, .slice none 0 0, A0 + 1, [], _, rfl, z, ⟨rfl, by omega, by simp, by simp, Ow.nil (by omega), by omega, q0⟩, junk (by kernel_rfl)⟩) ?_
  intro n e h' hin
  rw [hI1] at hin
  obtain ⟨i, wv, A, l, h1', rfl, z, hinv, J, rfl⟩ := hin
  clear q0
  obtain ⟨rfl, hi, hll, hmem, ow, hAA, q0⟩ := hinv
  have hw : IntKind.i64.wrap ((i : Int) + 1) = ((i + 1 : Nat) : Int) := by rw [wrap_i64 (by omega) (by omega)]; omega
  have hvw := vSelf wv
  simp -implicitDefEqProofs only [syms, symx, seval, c180, q0.lay, ↓cut_atom, agg_atom, valE_atom]
  refine ok_count a _ _ (fun h' x => ?_)
  (( skip); replace z := z.overW x (by (try simp only [lsz]); omega); (try replace q0 := q0.over x); (try replace ow := ow.over x); rw [lay_nil h'])
  simp -implicitDefEqProofs only [syms, symx, seval, c180]
  refine forkD (fun hlt => ?_) (fun hlt => ?_)
  rotate_left
  · have he : i = a.cnt := by omega
    rw [he] at hmem
    repeat' ( simp -implicitDefEqProofs only [syms, symx, seval, c180, hvw])
    exact hk _ _ _ (z.upW _ _ (by omega)) ((ow.sl (by decide)).lay _ _) (by omega) hmem
  repeat' ( simp -implicitDefEqProofs only [syms, symx, seval, c180])
  obtain ⟨I2, hI2⟩ : ∃ I : Nat → Env → Heap → Prop, I = (fun n e h' => ∃ (k : Nat) (b : Bool) (h1 : Heap), h' = h1.lay [] h1.low ∧ Ext h h1 ∧ (n = i - k ∧ k ≤ i ∧ (b = true ↔ ∃ j : Nat, j < k ∧ a.arg j = a.arg i) ∧ Ow Rep.str h h1 9 A wv l ∧ Holds h1 A0 (.row a.cells 39 false)) ∧ ∃ J : Nat → Value, e = (J 0 :: .bool bv :: .pointer (some ⟨A0, 0, none⟩) :: jr J 3 2 (wv :: .int .i64 i :: .bool b :: .int .i64 k :: jr J 9 43 ([])))) := ⟨_, rfl⟩
  refine W_loopN I2 _ (by rw [hI2]; exact ⟨0, false, _, rfl, z, ⟨rfl, by omega, by simp, ow, q0⟩, junk (by kernel_rfl)⟩) ?_
  intro n e h' hin
  rw [hI2] at hin
  obtain ⟨k, b, h1', rfl, z, hinv, J, rfl⟩ := hin
  clear q0 ow
  obtain ⟨rfl, hk1, hbb, ow, q0⟩ := hinv
  have hwk : IntKind.i64.wrap ((k : Int) + 1) = ((k + 1 : Nat) : Int) := by rw [wrap_i64 (by omega) (by omega)]; omega
  have hi4 : (0 : Int) ≤ (i : Int) ∧ (i : Int) < 4 := by omega
  have hca := cut_argV a i (by omega)
  simp -implicitDefEqProofs only [syms, symx, seval, c180]
  refine forkD (fun hlt2 => ?_) (fun hlt2 => ?_)
  · have hk4 : (0 : Int) ≤ (k : Int) ∧ (k : Int) < 4 := by omega
    have hcb := cut_argV a k (by omega)
    have hup : (∃ j : Nat, j < k + 1 ∧ a.arg j = a.arg i) ↔ (∃ j : Nat, j < k ∧ a.arg j = a.arg i) ∨ a.arg k = a.arg i := by
      constructor
      · rintro ⟨j, hj, e⟩
        by_cases hjk : j = k
        · subst hjk
          exact .inr e
        · exact .inl ⟨j, by omega, e⟩
      · rintro (⟨j, hj, e⟩ | e)
        · exact ⟨j, by omega, e⟩
        · exact ⟨k, by omega, e⟩
    cases b
    · repeat' (first | simp -implicitDefEqProofs only [syms, symx, seval, c180, q0.lay, hi4, hk4, ↓hca, ↓hcb, agg_term2, valE_term, and_self, if_true, bin_termE] | with_reducible refine drawN (by simp only [c180]) (z.upW _ _ (by omega)) ?_ | ((with_reducible  apply forkD ) <;> intro _) | ((with_reducible refine ⟨z.grw.lay _ _, ?_⟩); (intro _ h' zz x _); (try simp only [lay_lay, List.append_nil] at x); (try replace q0 := q0.over x); (try replace ow := ow.over x); (replace z := zz); (clear zz); rw [lay_nil h']))
      all_goals rw [hwk]
      · have hbn : (true = true ↔ ∃ j : Nat, j < k + 1 ∧ a.arg j = a.arg i) := by rw [hup]; exact ⟨fun _ => .inr (by assumption), fun _ => rfl⟩
        (rw [hI2]; with_reducible refine loopN_normal (m := _) ?_ ⟨k + 1, true, _, rfl, z, ⟨rfl, by omega, hbn, ow, q0⟩, junk (by kernel_rfl)⟩; omega)
      · have hbn : (false = true ↔ ∃ j : Nat, j < k + 1 ∧ a.arg j = a.arg i) := by
          rw [hup, ← hbb]
          exact ⟨fun e => .inl e, fun e => e.elim id (fun e => absurd e (by assumption))⟩
        (rw [hI2]; with_reducible refine loopN_normal (m := _) ?_ ⟨k + 1, false, _, rfl, z, ⟨rfl, by omega, hbn, ow, q0⟩, junk (by kernel_rfl)⟩; omega)
    · repeat' (first | simp -implicitDefEqProofs only [syms, symx, seval, c180, q0.lay, hi4, hk4, ↓hca, ↓hcb, agg_term2, valE_term, and_self, if_true] | with_reducible refine drawN (by simp only [c180]) (z.upW _ _ (by omega)) ?_ | ((with_reducible refine ⟨z.grw.lay _ _, ?_⟩); (intro _ h' zz x _); (try simp only [lay_lay, List.append_nil] at x); (try replace q0 := q0.over x); (try replace ow := ow.over x); (replace z := zz); (clear zz); rw [lay_nil h']))
      rw [hwk]
      have hbn : (true = true ↔ ∃ j : Nat, j < k + 1 ∧ a.arg j = a.arg i) := by rw [hup]; exact ⟨fun e => .inl (hbb.1 e), fun _ => rfl⟩
      (rw [hI2]; with_reducible refine loopN_normal (m := _) ?_ ⟨k + 1, true, _, rfl, z, ⟨rfl, by omega, hbn, ow, q0⟩, junk (by kernel_rfl)⟩; omega)
  have hki : k = i := by omega
  have hcB := cellX_argB a i (by omega)
  have hcS := cellX_argS a i (by omega)
  have hws : IntKind.i64.wrap ((i : Int) + 1) = ((i + 1 : Nat) : Int) := hw
  have hup : ∀ x, (∃ j : Nat, j < i + 1 ∧ (a.arg j).v = bv ∧ (a.arg j).s = x) ↔ (∃ j : Nat, j < i ∧ (a.arg j).v = bv ∧ (a.arg j).s = x) ∨ ((a.arg i).v = bv ∧ (a.arg i).s = x) := by
    intro x
    constructor
    · rintro ⟨j, hj, e⟩
      by_cases hjk : j = i
      · subst hjk
        exact .inr e
      · exact .inl ⟨j, by omega, e⟩
    · rintro (⟨j, hj, e⟩ | e)
      · exact ⟨j, by omega, e⟩
      · exact ⟨i, by omega, e⟩
  have hskip : (b = true ∨ ¬ (a.arg i).v = bv) → ∀ x, x ∈ l ↔ ∃ j : Nat, j < i + 1 ∧ (a.arg j).v = bv ∧ (a.arg j).s = x := by
    intro hs x
    rw [hup, ← hmem]
    refine ⟨.inl, fun e => e.elim id (fun e => ?_)⟩
    rcases hs with hs | hs
    · obtain ⟨j, hj, ej⟩ := hbb.1 hs
      rw [hmem]
      exact ⟨j, by omega, by rw [ej]; exact e⟩
    · exact absurd e.1 hs
  have htake : (a.arg i).v = bv → ∀ x, x ∈ l ++ [(a.arg i).s] ↔ ∃ j : Nat, j < i + 1 ∧ (a.arg j).v = bv ∧ (a.arg j).s = x := by
    intro hs x
    rw [hup, ← hmem, List.mem_append, List.mem_singleton]
    exact ⟨fun e => e.imp id (fun e => ⟨hs, e.symm⟩), fun e => e.imp id (fun e => e.2.symm)⟩
  obtain ⟨vb, hvb⟩ : ∃ vb, (a.arg i).v = vb := ⟨_, rfl⟩
  rw [hvb] at hcB hskip htake
  have hvbE : ∀ (h : Heap) (K : Value → Heap → Prop), valE (some (.bool vb)) h K = K (.bool vb) h := fun _ _ => rfl
  cases vb
  all_goals
    cases bv
    all_goals
      cases b
      all_goals
        repeat' (first | simp -implicitDefEqProofs only [syms, symx, seval, c180, q0.lay, hi4, and_self, if_true, hcB, hcS, hvw, bx_tt, bx_tf, bx_ft, bx_ff, Bool.not_false, Bool.not_true] | ((with_reducible_and_instances apply unop_not); (· rfl)))
  all_goals first
    | (rw [hw]
       have hsk := hskip (by simp)
       (rw [hI1]; with_reducible refine loopN_normal (m := _) ?_ ⟨i + 1, wv, A, l, _, rfl, z, ⟨rfl, by omega, by omega, hsk, ow, hAA, q0⟩, junk (by kernel_rfl)⟩; omega))
    | skip
  all_goals
    simp -implicitDefEqProofs only [syms, symx, seval, c180, w_append, sty60]
    have htk := htake rfl
    have hHs : (h1'.lay [Blk.row [Value.string (a.arg i).s] 9 false] h1'.low).size = h1'.size + 1 := by rw [lay_size]; rfl
    obtain ⟨hs1, hsr⟩ := src_row (r := Rep.str) (A := A) (c := 1) (y := (a.arg i).s) (by decide) (show (h1'.lay [Blk.row [Value.string (a.arg i).s] 9 false] h1'.low).get (h1'.size + 0) = some (.row [Value.string (a.arg i).s] 9 false) by rw [lay_get]; rfl) rfl
    have hz := z.size
    obtain ⟨w', h2, A', e1, e2, e3, e4, e5⟩ := app_ow (t := 60) ds60 tab_info9 rfl (by decide) (by rw [hHs]; omega) (ow.mono (Inc.lay _ _ _)) hs1 hsr (by omega) (by omega)
    have hfA := ow.fresh
    have q0l := q0.lt
    rw [hHs] at e4
    replace z := (z.upW [Blk.row [Value.string (a.arg i).s] 9 false] h1'.low (by omega)).step e3 hfA
    clear hup hbb hki
    have q1 := q0.stepL e3 (by first | exact hAA | exact Ne.symm hAA)
    rw [e1, lay_nil h2]
    clear q0 ow
  all_goals
    repeat' ( simp -implicitDefEqProofs only [syms, symx, seval, c180])
    rw [hw]
    (rw [hI1]; with_reducible refine loopN_normal (m := _) ?_ ⟨i + 1, w', A', l ++ [(a.arg i).s], _, rfl, z, ⟨rfl, by omega, by rw [List.length_append, List.length_singleton]; omega, htk, e2, by omega, q1⟩, junk (by kernel_rfl)⟩; omega)
theorem ok_varsX (a : AtomD) (h : Heap) (K : Value → Heap → Prop) (hk : ∀ w l h', Ext h h' → Sl Rep.str h' w l → l.length ≤ 4 → (∀ x, x ∈ l ↔ varIn a x) → K w h') : Ok Try.prog tab ov 150 [a.val] h K := by
  rw [lay_nil h]
  have z := Ext.refl h
  refine Ok.into rfl tab_fn150 (bodyF N150) rfl (m := 4) rfl ?_
  repeat' ( simp -implicitDefEqProofs only [syms, symx, seval, c150, cells_atom, ↓cut_atom, agg_atom, valE_atom])
  refine ok_namesX a true _ _ (fun w l h' x s hl hm => ?_)
  ((skip); replace z := z.overW x (by (try simp only [lsz]); omega); rw [lay_nil h'])
  have hvw := vSelf w
  repeat' ( simp -implicitDefEqProofs only [syms, symx, seval, c150, hvw])
  exact hk _ _ _ (z.upW _ _ (by omega)) (s.lay _ _) hl (fun x => (hm x).trans varIn_iff.symm)
theorem ok_rangedX (c : ClauseD) (v : Value) (h : Heap) (hl : Sl Rep.atom h v c.body) (hn : c.body.length ≤ 1000) (K : Value → Heap → Prop) (h1k : (∀ x, varIn c.head x → ∃ b ∈ c.body, varIn b x) → ∀ h', Ext h h' → K (.bool true) h') (h2k : ¬ (∀ x, varIn c.head x → ∃ b ∈ c.body, varIn b x) → ∀ h', Ext h h' → K (.bool false) h') : Ok Try.prog tab ov 130 [.agg ⟨c.head.cells ++ [v]⟩] h K := by
  rw [lay_nil h]
  have z := Ext.refl h
  have hva := vSelf v
  have hlv := fun (hh : Heap) => hl.lenA ds23 hh
  refine Ok.into rfl tab_fn130 (bodyF N130) rfl (m := 54) rfl ?_
  repeat' ( simp -implicitDefEqProofs only [syms, symx, seval, c130, cells_atom, ↓cut_atom, ↓cutX_cl0, agg_atom, valE_atom, hva])
  refine ok_varsX c.head _ _ (fun w lh h' x s hll hm => ?_)
  have q0 := Holds.top (i := 0) x rfl
  (( skip); replace z := z.overW x (by (try simp only [lsz]); omega); rw [lay_nil h'])
  obtain ⟨A0, hA0⟩ : ∃ A0, A0 = h.size + 0 := ⟨_, rfl⟩
  rw [← hA0] at q0
  rw [← hA0]
  have hvw := vSelf w
  have hlw := fun (hh : Heap) => s.lenA ds60 hh
  repeat' ( simp -implicitDefEqProofs only [syms, symx, seval, c130, hvw])
  obtain ⟨I1, hI1⟩ : ∃ I : Nat → Env → Heap → Prop, I = (fun n e h' => ∃ (i : Nat) (h1 : Heap), h' = h1.lay [] h1.low ∧ Ext h h1 ∧ (n = lh.length - i ∧ i ≤ lh.length ∧ (∀ x ∈ lh.take i, ∃ b ∈ c.body, varIn b x) ∧ Holds h1 A0 (.row (c.head.cells ++ [v]) 47 false) ∧ Sl Rep.str h1 w lh) ∧ ∃ J : Nat → Value, e = (J 0 :: .pointer (some ⟨A0, 0, none⟩) :: J 2 :: w :: .int .i64 i :: jr J 5 50 ([]))) := ⟨_, rfl⟩
  refine W_loopN I1 _ (by rw [hI1]; exact ⟨0, _, rfl, z, ⟨rfl, by omega, by simp, q0, s⟩, junk (by kernel_rfl)⟩) ?_
  intro n e h' hin
  rw [hI1] at hin
  obtain ⟨i, h1', rfl, z, hinv, J, rfl⟩ := hin
  clear q0 s
  obtain ⟨rfl, hi, hall, q0, s⟩ := hinv
  have hw : IntKind.i64.wrap ((i : Int) + 1) = ((i + 1 : Nat) : Int) := by rw [wrap_i64 (by omega) (by omega)]; omega
  simp -implicitDefEqProofs only [syms, symx, seval, c130, hvw, hlw]
  refine forkD (fun hlt => ?_) (fun hlt => ?_)
  rotate_left
  · rw [List.take_of_length_le (by omega)] at hall
    repeat' ( simp -implicitDefEqProofs only [syms, symx, seval, c130])
    exact h1k (fun x hx => hall x ((hm x).2 hx)) _ (z.upW _ _ (by omega))
  obtain ⟨x0, hx0, hx0'⟩ := amElem (l := lh) (i := i) (by omega)
  have hxh : varIn c.head x0 := (hm x0).1 (List.mem_of_getElem? hx0')
  repeat' ( simp -implicitDefEqProofs only [syms, symx, seval, c130])
  obtain ⟨I2, hI2⟩ : ∃ I : Nat → Env → Heap → Prop, I = (fun n e h' => ∃ (k : Nat) (b : Bool) (h1 : Heap), h' = h1.lay [] h1.low ∧ Ext h h1 ∧ (n = c.body.length - k ∧ k ≤ c.body.length ∧ (b = true ↔ ∃ y ∈ c.body.take k, varIn y x0) ∧ Holds h1 A0 (.row (c.head.cells ++ [v]) 47 false) ∧ Sl Rep.str h1 w lh) ∧ ∃ J : Nat → Value, e = (J 0 :: .pointer (some ⟨A0, 0, none⟩) :: J 2 :: w :: .int .i64 i :: .bool b :: .int .i64 k :: jr J 7 48 ([]))) := ⟨_, rfl⟩
  refine W_loopN I2 _ (by rw [hI2]; exact ⟨0, false, _, rfl, z, ⟨rfl, by omega, by simp, q0, s⟩, junk (by kernel_rfl)⟩) ?_
  intro n e h' hin
  rw [hI2] at hin
  obtain ⟨k, b, h1', rfl, z, hinv, J, rfl⟩ := hin
  clear q0 s
  obtain ⟨rfl, hk1, hbb, q0, s⟩ := hinv
  have hwk : IntKind.i64.wrap ((k : Int) + 1) = ((k + 1 : Nat) : Int) := by rw [wrap_i64 (by omega) (by omega)]; omega
  cases b
  rotate_left
  · have hall2 : ∀ x ∈ lh.take (i + 1), ∃ b ∈ c.body, varIn b x := take_all (i := i) (P := fun x => ∃ b ∈ c.body, varIn b x) hx0' hall (by
      obtain ⟨y, hy, e⟩ := hbb.1 rfl
      exact ⟨y, List.mem_of_mem_take hy, e⟩)
    simp -implicitDefEqProofs only [syms, symx, seval, c130, q0.lay, cellX_cl1, hva, hlv]
    refine forkD (fun hlt2 => ?_) (fun hlt2 => ?_)
    all_goals
      repeat' (first | simp -implicitDefEqProofs only [syms, symx, seval, c130, Bool.not_true] | ((with_reducible_and_instances apply unop_not); (· rfl)))
      rw [hw]
      (rw [hI1]; with_reducible refine loopN_normal (m := _) ?_ ⟨i + 1, _, rfl, z, ⟨rfl, by omega, hall2, q0, s⟩, junk (by kernel_rfl)⟩; omega)
  simp -implicitDefEqProofs only [syms, symx, seval, c130, q0.lay, cellX_cl1, hva, hlv]
  refine forkD (fun hlt2 => ?_) (fun hlt2 => ?_)
  rotate_left
  · rw [List.take_of_length_le (by omega)] at hbb
    repeat' (first | simp -implicitDefEqProofs only [syms, symx, seval, c130, Bool.not_false] | ((with_reducible_and_instances apply unop_not); (· rfl)))
    exact h2k (fun hh => by have := hbb.2 (hh x0 hxh); cases this) _ (z.upW _ _ (by omega))
  obtain ⟨y, hy, hy'⟩ := amElem (l := c.body) (i := k) (by omega)
  repeat' (first | simp -implicitDefEqProofs only [syms, symx, seval, c130, Bool.not_false, q0.lay, cellX_cl1, hva] | with_reducible_and_instances refine ixa_at (hl.mono z.inc) ds23 sz39 (by omega) hy (fun p hp => ?_) | with_reducible_and_instances refine lda hp ag39 sz39 ?_ | ((with_reducible_and_instances apply unop_not); (· rfl)))
  refine ok_varsX y _ _ (fun w2 l2 h' x s2 hll2 hm2 => ?_)
  (( skip); replace z := z.overW x (by (try simp only [lsz]); omega); (try replace q0 := q0.over x); (try replace s := s.over x); rw [lay_nil h'])
  have hvw2 := vSelf w2
  have hlw2 := fun (hh : Heap) => s2.lenA ds60 hh
  repeat' ( simp -implicitDefEqProofs only [syms, symx, seval, c130, hvw2])
  obtain ⟨I3, hI3⟩ : ∃ I : Nat → Env → Heap → Prop, I = (fun n e h' => ∃ (d : Nat) (b : Bool) (h1 : Heap), h' = h1.lay [] h1.low ∧ Ext h h1 ∧ (n = l2.length - d ∧ d ≤ l2.length ∧ (b = true ↔ x0 ∈ l2.take d) ∧ Holds h1 A0 (.row (c.head.cells ++ [v]) 47 false) ∧ Sl Rep.str h1 w lh ∧ Sl Rep.str h1 w2 l2) ∧ ∃ J : Nat → Value, e = (J 0 :: .pointer (some ⟨A0, 0, none⟩) :: J 2 :: w :: .int .i64 i :: .bool b :: .int .i64 k :: w2 :: .int .i64 d :: jr J 9 46 ([]))) := ⟨_, rfl⟩
  refine W_loopN I3 _ (by rw [hI3]; exact ⟨0, false, _, rfl, z, ⟨rfl, by omega, by simp, q0, s, s2⟩, junk (by kernel_rfl)⟩) ?_
  intro n e h' hin
  rw [hI3] at hin
  obtain ⟨d, b, h1', rfl, z, hinv, J, rfl⟩ := hin
  clear q0 s s2
  obtain ⟨rfl, he1, hb3, q0, s, s2⟩ := hinv
  have hwe : IntKind.i64.wrap ((d : Int) + 1) = ((d + 1 : Nat) : Int) := by rw [wrap_i64 (by omega) (by omega)]; omega
  simp -implicitDefEqProofs only [syms, symx, seval, c130, hvw2, hlw2]
  refine forkD (fun hlt3 => ?_) (fun hlt3 => ?_)
  rotate_left
  · rw [List.take_of_length_le (by omega)] at hb3
    have hbn : (b = true ↔ ∃ y ∈ c.body.take (k + 1), varIn y x0) := by
      rw [hb3, hm2, List.take_add_one, hy']
      constructor
      · intro hh
        exact ⟨y, by simp, hh⟩
      · rintro ⟨y2, hy2, hh⟩
        rcases List.mem_append.1 hy2 with hm3 | hm3
        · exact absurd (hbb.2 ⟨y2, hm3, hh⟩) (by decide)
        · obtain rfl : y2 = y := by simpa using hm3
          exact hh
    repeat' ( simp -implicitDefEqProofs only [syms, symx, seval, c130])
    rw [hwk]
    (rw [hI2]; with_reducible refine loopN_normal (m := _) ?_ ⟨k + 1, b, _, rfl, z, ⟨rfl, by omega, hbn, q0, s⟩, junk (by kernel_rfl)⟩; omega)
  obtain ⟨x1, hx1, hx1'⟩ := amElem (l := l2) (i := d) (by omega)
  have hup : x0 ∈ l2.take (d + 1) ↔ x0 ∈ l2.take d ∨ x1 = x0 := by
    rw [List.take_add_one, hx1', List.mem_append]
    simp [eq_comm]
  cases b
  rotate_left
  · repeat' (first | simp -implicitDefEqProofs only [syms, symx, seval, c130] | with_reducible refine drawN (by simp only [c130]) (z.upW _ _ (by omega)) ?_ | ((with_reducible refine ⟨z.grw.lay _ _, ?_⟩); (intro _ h' zz x _); (try simp only [lay_lay, List.append_nil] at x); (try replace q0 := q0.over x); (try replace s := s.over x); (try replace s2 := s2.over x); (replace z := zz); (clear zz); rw [lay_nil h']))
    rw [hwe]
    have hbn : (true = true ↔ x0 ∈ l2.take (d + 1)) := by rw [hup]; exact ⟨fun _ => .inl (hb3.1 rfl), fun _ => rfl⟩
    (rw [hI3]; with_reducible refine loopN_normal (m := _) ?_ ⟨d + 1, true, _, rfl, z, ⟨rfl, by omega, hbn, q0, s, s2⟩, junk (by kernel_rfl)⟩; omega)
  repeat' (first | simp -implicitDefEqProofs only [syms, symx, seval, c130, hvw, hvw2] | with_reducible refine drawN (by simp only [c130]) (z.upW _ _ (by omega)) ?_ | ((with_reducible  apply forkD ) <;> intro _) | with_reducible_and_instances refine ixs_at s2 ds60 sz9 (by omega) hx1 (fun p hp => ?_) | with_reducible_and_instances refine ixs_at s ds60 sz9 (by omega) hx0 (fun p hp => ?_) | with_reducible_and_instances refine ld_one hp ag9 ?_ | ((with_reducible refine ⟨z.grw.lay _ _, ?_⟩); (intro _ h' zz x _); (try simp only [lay_lay, List.append_nil] at x); (try replace q0 := q0.over x); (try replace s := s.over x); (try replace s2 := s2.over x); (replace z := zz); (clear zz); rw [lay_nil h']))
  · have hbn : (true = true ↔ x0 ∈ l2.take (d + 1)) := by rw [hup]; exact ⟨fun _ => .inr (by assumption), fun _ => rfl⟩
    rw [hwe]
    (rw [hI3]; with_reducible refine loopN_normal (m := _) ?_ ⟨d + 1, true, _, rfl, z, ⟨rfl, by omega, hbn, q0, s, s2⟩, junk (by kernel_rfl)⟩; omega)
  · have hbn : (false = true ↔ x0 ∈ l2.take (d + 1)) := by
      rw [hup, ← hb3]
      exact ⟨fun e => .inl e, fun e => e.elim id (fun e => absurd e (by assumption))⟩
    rw [hwe]
    (rw [hI3]; with_reducible refine loopN_normal (m := _) ?_ ⟨d + 1, false, _, rfl, z, ⟨rfl, by omega, hbn, q0, s, s2⟩, junk (by kernel_rfl)⟩; omega)
theorem ok_oneX (c : ClauseD) (v : Value) (h : Heap) (hl : Sl Rep.atom h v c.body) (hn : c.body.length ≤ 1000) (K : Value → Heap → Prop) (h1k : OneX c → ∀ h', Ext h h' → K (.bool true) h') (h2k : ¬ OneX c → ∀ h', Ext h h' → K (.bool false) h') : Ok Try.prog tab ov 75 [.agg ⟨c.head.cells ++ [v]⟩] h K := by
  rw [lay_nil h]
  have z := Ext.refl h
  have hva := vSelf v
  have hlv := fun (hh : Heap) => hl.lenA ds23 hh
  refine Ok.into rfl tab_fn75 (bodyF N75) rfl (m := 23) rfl ?_
  repeat' ( simp -implicitDefEqProofs only [syms, symx, seval, c75, cells_atom, ↓cut_atom, ↓cutX_cl0, agg_atom, valE_atom, hva])
  refine ok_checkX c.head _ _ (fun hv h' x => ?_) (fun hv cc h' hc x => ?_)
  rotate_left
  · ((skip); replace z := z.overW x (by (try simp only [lsz]); omega); (try replace q0 := q0.over x); (try replace s := s.over x); (try replace s2 := s2.over x); rw [lay_nil h'])
    repeat' (first | simp -implicitDefEqProofs only [syms, symx, seval, c75] | ((with_reducible  apply forkN ) <;> intro _))
    · exact h2k (fun x => hv x.head) _ (z.upW _ _ (by omega))
    · exact absurd (by assumption) hc
  have q0 := Holds.top (i := 0) x rfl
  ((skip); replace z := z.overW x (by (try simp only [lsz]); omega); (try replace q0 := q0.over x); (try replace s := s.over x); (try replace s2 := s2.over x); rw [lay_nil h'])
  obtain ⟨A0, hA0⟩ : ∃ A0, A0 = h.size + 0 := ⟨_, rfl⟩
  rw [← hA0] at q0
  rw [← hA0]
  repeat' ( simp -implicitDefEqProofs only [syms, symx, seval, c75])
  obtain ⟨I1, hI1⟩ : ∃ I : Nat → Env → Heap → Prop, I = (fun n e h' => ∃ (i : Nat) (h1 : Heap), h' = h1.lay [] h1.low ∧ Ext h h1 ∧ (n = c.body.length - i ∧ i ≤ c.body.length ∧ (∀ y ∈ c.body.take i, ValidX y) ∧ Holds h1 A0 (.row (c.head.cells ++ [v]) 47 false)) ∧ ∃ J : Nat → Value, e = (J 0 :: .pointer (some ⟨A0, 0, none⟩) :: J 2 :: .int .i64 i :: jr J 4 20 ([]))) := ⟨_, rfl⟩
  refine W_loopN I1 _ (by rw [hI1]; exact ⟨0, _, rfl, z, ⟨rfl, by omega, by simp, q0⟩, junk (by kernel_rfl)⟩) ?_
  intro n e h' hin
  rw [hI1] at hin
  obtain ⟨i, h1', rfl, z, hinv, J, rfl⟩ := hin
  clear q0
  obtain ⟨rfl, hi, hall, q0⟩ := hinv
  have hw : IntKind.i64.wrap ((i : Int) + 1) = ((i + 1 : Nat) : Int) := by rw [wrap_i64 (by omega) (by omega)]; omega
  simp -implicitDefEqProofs only [syms, symx, seval, c75, q0.lay, cellX_cl1, hva, hlv]
  refine forkD (fun hlt => ?_) (fun hlt => ?_)
  rotate_left
  · rw [List.take_of_length_le (by omega)] at hall
    repeat' ( simp -implicitDefEqProofs only [syms, symx, seval, c75, q0.lay, ↓cutX_cl12])
    refine ok_rangedX c v _ ((hl.mono z.inc).lay _ _) hn _ (fun hr h' x => ?_) (fun hr h' x => ?_)
    · ((skip); replace z := z.overW x (by (try simp only [lsz]); omega); (try replace q0 := q0.over x); rw [lay_nil h'])
      repeat' ( simp -implicitDefEqProofs only [syms, symx, seval, c75])
      exact h1k ⟨hv, hall, hr⟩ _ (z.upW _ _ (by omega))
    · ((skip); replace z := z.overW x (by (try simp only [lsz]); omega); (try replace q0 := q0.over x); rw [lay_nil h'])
      repeat' ( simp -implicitDefEqProofs only [syms, symx, seval, c75])
      exact h2k (fun x => hr x.ranged) _ (z.upW _ _ (by omega))
  obtain ⟨y, hy, hy'⟩ := amElem (l := c.body) (i := i) (by omega)
  repeat' (first | simp -implicitDefEqProofs only [syms, symx, seval, c75, q0.lay, cellX_cl1, hva] | with_reducible_and_instances refine ixa_at (hl.mono z.inc) ds23 sz39 (by omega) hy (fun p hp => ?_) | with_reducible_and_instances refine lda hp ag39 sz39 ?_)
  refine ok_checkX y _ _ (fun hv2 h' x => ?_) (fun hv2 cc h' hc x => ?_)
  · ((skip); replace z := z.overW x (by (try simp only [lsz]); omega); (try replace q0 := q0.over x); rw [lay_nil h'])
    repeat' ( simp -implicitDefEqProofs only [syms, symx, seval, c75])
    rw [hw]
    (rw [hI1]; with_reducible refine loopN_normal (m := _) ?_ ⟨i + 1, _, rfl, z, ⟨rfl, by omega, take_all (i := i) (P := ValidX) hy' hall hv2, q0⟩, junk (by kernel_rfl)⟩; omega)
  · ((skip); replace z := z.overW x (by (try simp only [lsz]); omega); (try replace q0 := q0.over x); rw [lay_nil h'])
    repeat' (first | simp -implicitDefEqProofs only [syms, symx, seval, c75] | ((with_reducible  apply forkN ) <;> intro _))
    · exact h2k (fun x => hv2 (x.body y (List.mem_of_getElem? hy'))) _ (z.upW _ _ (by omega))
    · exact absurd (by assumption) hc
theorem ok_mayX (cl : List ClauseD) (facts : List AtomD) (v u : Value) (h : Heap) (hl : Sl Rep.clause h v cl) (hf : Sl Rep.atom h u facts) (hn : cl.length ≤ 1000) (hcb : ∀ c ∈ cl, c.body.length ≤ 1000) (hfn : facts.length ≤ 1000) (K : Value → Heap → Prop) (h1k : MayX cl facts → ∀ h', Ext h h' → K (.bool true) h') (h2k : ¬ MayX cl facts → ∀ h', Ext h h' → K (.bool false) h') : Ok Try.prog tab ov 16 [v, u] h K := by
  rw [lay_nil h]
  have z := Ext.refl h
  have hva := vSelf v
  have hvu := vSelf u
  have hlv := fun (hh : Heap) => hl.lenA ds22 hh
  have hlu := fun (hh : Heap) => hf.lenA ds23 hh
  refine Ok.into rfl tab_fn16 (bodyF N16) rfl (m := 29) rfl ?_
  simp -implicitDefEqProofs only [syms, symx, seval, c16]
  obtain ⟨I1, hI1⟩ : ∃ I : Nat → Env → Heap → Prop, I = (fun n e h' => ∃ (i : Nat) (h1 : Heap), h' = h1.lay [] h1.low ∧ Ext h h1 ∧ (n = cl.length - i ∧ i ≤ cl.length ∧ (∀ c ∈ cl.take i, OneX c)) ∧ ∃ J : Nat → Value, e = (v :: u :: jr J 2 3 (.int .i64 i :: jr J 6 25 ([])))) := ⟨_, rfl⟩
  refine W_loopN I1 _ (by rw [hI1]; exact ⟨0, _, rfl, z, ⟨rfl, by omega, by simp⟩, junk (by kernel_rfl)⟩) ?_
  intro n e h' hin
  rw [hI1] at hin
  obtain ⟨i, h1', rfl, z, hinv, J, rfl⟩ := hin
  obtain ⟨rfl, hi, hall⟩ := hinv
  have hw : IntKind.i64.wrap ((i : Int) + 1) = ((i + 1 : Nat) : Int) := by rw [wrap_i64 (by omega) (by omega)]; omega
  simp -implicitDefEqProofs only [syms, symx, seval, c16, hva, hlv]
  refine forkD (fun hlt => ?_) (fun hlt => ?_)
  · obtain ⟨r, hr, hr'⟩ := amElem (l := cl) (i := i) (by omega)
    repeat' (first | simp -implicitDefEqProofs only [syms, symx, seval, c16, hva] | with_reducible_and_instances refine ixc_at (hl.mono z.inc) ds22 sz47 (by omega) hr (fun p bd hbd hp => ?_) | with_reducible_and_instances refine ldc hp ag47 sz47 ?_)
    refine ok_oneX r _ _ (Sl.lay (by assumption) _ _) (hcb r (List.mem_of_getElem? hr')) _ (fun ho h' x => ?_) (fun ho h' x => ?_)
    · ((skip); replace z := z.overW x (by (try simp only [lsz]); omega); rw [lay_nil h'])
      repeat' (first | simp -implicitDefEqProofs only [syms, symx, seval, c16, Bool.not_true] | ((with_reducible_and_instances apply unop_not); (· rfl)))
      rw [hw]
      (rw [hI1]; with_reducible refine loopN_normal (m := _) ?_ ⟨i + 1, _, rfl, z, ⟨rfl, by omega, take_all (i := i) (P := OneX) hr' hall ho⟩, junk (by kernel_rfl)⟩; omega)
    · ((skip); replace z := z.overW x (by (try simp only [lsz]); omega); rw [lay_nil h'])
      repeat' (first | simp -implicitDefEqProofs only [syms, symx, seval, c16, Bool.not_false] | ((with_reducible_and_instances apply unop_not); (· rfl)))
      exact h2k (fun x => ho (x.clauses r (List.mem_of_getElem? hr'))) _ (z.upW _ _ (by omega))
  rw [List.take_of_length_le (by omega)] at hall
  repeat' ( simp -implicitDefEqProofs only [syms, symx, seval, c16])
  obtain ⟨I2, hI2⟩ : ∃ I : Nat → Env → Heap → Prop, I = (fun n e h' => ∃ (k : Nat) (h1 : Heap), h' = h1.lay [] h1.low ∧ Ext h h1 ∧ (n = facts.length - k ∧ k ≤ facts.length ∧ (∀ a ∈ facts.take k, FactX a)) ∧ ∃ J : Nat → Value, e = (v :: u :: jr J 2 4 (.int .i64 k :: jr J 7 24 ([])))) := ⟨_, rfl⟩
  refine W_loopN I2 _ (by rw [hI2]; exact ⟨0, _, rfl, z, ⟨rfl, by omega, by simp⟩, junk (by kernel_rfl)⟩) ?_
  intro n e h' hin
  rw [hI2] at hin
  obtain ⟨k, h1', rfl, z, hinv, J, rfl⟩ := hin
  obtain ⟨rfl, hk1, hfa⟩ := hinv
  have hwk : IntKind.i64.wrap ((k : Int) + 1) = ((k + 1 : Nat) : Int) := by rw [wrap_i64 (by omega) (by omega)]; omega
  simp -implicitDefEqProofs only [syms, symx, seval, c16, hvu, hlu]
  refine forkD (fun hlt2 => ?_) (fun hlt2 => ?_)
  rotate_left
  · rw [List.take_of_length_le (by omega)] at hfa
    repeat' ( simp -implicitDefEqProofs only [syms, symx, seval, c16])
    exact h1k ⟨hall, hfa⟩ _ (z.upW _ _ (by omega))
  obtain ⟨y, hy, hy'⟩ := amElem (l := facts) (i := k) (by omega)
  repeat' (first | simp -implicitDefEqProofs only [syms, symx, seval, c16, hvu] | with_reducible_and_instances refine ixa_at (hf.mono z.inc) ds23 sz39 (by omega) hy (fun p hp => ?_) | with_reducible_and_instances refine lda hp ag39 sz39 ?_)
  refine ok_factX y _ _ (fun hv2 h' x => ?_) (fun hv2 h' x => ?_)
  · ((skip); replace z := z.overW x (by (try simp only [lsz]); omega); rw [lay_nil h'])
    repeat' (first | simp -implicitDefEqProofs only [syms, symx, seval, c16, Bool.not_true] | ((with_reducible_and_instances apply unop_not); (· rfl)))
    rw [hwk]
    (rw [hI2]; with_reducible refine loopN_normal (m := _) ?_ ⟨k + 1, _, rfl, z, ⟨rfl, by omega, take_all (i := k) (P := FactX) hy' hfa hv2⟩, junk (by kernel_rfl)⟩; omega)
  · ((skip); replace z := z.overW x (by (try simp only [lsz]); omega); rw [lay_nil h'])
    repeat' (first | simp -implicitDefEqProofs only [syms, symx, seval, c16, Bool.not_false] | ((with_reducible_and_instances apply unop_not); (· rfl)))
    exact h2k (fun x => hv2 (x.facts y (List.mem_of_getElem? hy'))) _ (z.upW _ _ (by omega))
end Go.Proofs.Ytompindebndddaa
