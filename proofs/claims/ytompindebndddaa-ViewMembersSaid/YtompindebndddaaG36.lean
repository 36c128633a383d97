/- A text put together piece by piece. No condition. -/
import Derived.Test.YtompindebndddaaG17
import Derived.Test.YtompindebndddaaG34
import Derived.Test.YtompindebndddaaZK8
import Derived.Test.YtompindebndddaaZV1
import Derived.Test.YtompindebndddaaZF2
namespace Go.Proofs.Ytompindebndddaa
open Go.Am
set_option linter.unusedSimpArgs false
set_option linter.unusedVariables false
set_option maxRecDepth 100000
set_option maxHeartbeats 0
theorem cell_a2 (a : AtomD) : a.cells[2]? = some (.int .i64 a.n) := rfl
theorem ok_count (a : AtomD) (h : Heap) (K : Value → Heap → Prop) (hk : ∀ h', Ext h h' → K (.int .i64 (a.cnt : Nat)) h') : Ok Try.prog tab ov 165 [a.val] h K := by
  rw [lay_nil h]
  have z := Ext.refl h
  have e : ((a.cnt : Nat) : Int) = if 4 < (if a.n < 0 then 0 else a.n) then 4 else if a.n < 0 then 0 else a.n := by
    unfold AtomD.cnt
    split <;> split <;> (try split) <;> omega
  rw [e] at hk
  refine Ok.into rfl tab_fn165 (bodyF N165) rfl (m := 6) rfl ?_
  repeat' (first | simp -implicitDefEqProofs only [syms, symx, seval, c165, cells_atom, cell_a2] | ((with_reducible first | apply forkD | apply forkB | apply forkN | apply forkNP | apply forkNot) <;> intro _) | ((with_reducible_and_instances apply min_int); (· rfl); (· rfl)) | ((with_reducible_and_instances apply max_int); (· rfl); (· rfl)))
  exact hk _ (z.upW _ _ (by omega))
theorem ok_atom12 (d : PolicyD) (a : AtomD) (p0 p1 p2 p5 p6 : Value) (q b : Int) (h : Heap) (hone : (polCells p0 p1 p2 p5 p6 q b).all Am.one = true) (hd : PolH h p0 p1 p2 p5 p6 d) (K : Value → Heap → Prop) (h1k : ValidD a → ∀ h', Ext h h' → K (.int .i64 0) h') (h2k : ∀ c h', c ≠ 0 → Ext h h' → K (.int .i64 c) h') : Ok Try.prog tab ov 149 [polVal p0 p1 p2 p5 p6 q b, a.val] h K := by
  rw [lay_nil h]
  have z := Ext.refl h
  refine Ok.into rfl tab_fn149 (bodyF N149) rfl (m := 31) rfl ?_
  repeat' (first | simp -implicitDefEqProofs only [syms, symx, seval, c149, cells_pol, cells_atom, ↓cut_atom, agg_atom, valE_atom] | ((with_reducible first | apply forkD | apply forkB | apply forkN | apply forkNP | apply forkNot) <;> intro _) | ((with_reducible_and_instances apply unop_not); (· rfl)))
  refine ok_validA a _ _ (fun hv h' x => ?_) (fun c h' hc x => ?_)
  rotate_left
  · ((skip); replace z := z.overW x (by (try simp only [lsz]); omega); rw [lay_nil h'])
    repeat' (first | simp -implicitDefEqProofs only [syms, symx, seval, c149] | ((with_reducible first | apply forkD | apply forkB | apply forkN | apply forkNP | apply forkNot) <;> intro _) | ((with_reducible_and_instances apply unop_not); (· rfl)))
    all_goals first
      | exact h2k _ _ hc (z.upW _ _ (by omega))
      | (exfalso; omega)
  have q0 := Holds.top (i := 0) x rfl
  have e0 := Holds.top (i := 1) x rfl
  ((skip); replace z := z.overW x (by (try simp only [lsz]); omega); (try replace q0 := q0.over x); (try replace e0 := e0.over x); rw [lay_nil h'])
  repeat' (first | simp -implicitDefEqProofs only [syms, symx, seval, c149, q0.lay, e0.lay, ↓cut_pol, agg_pol, valE_pol, cell_v0, cell_v1, cell_v2] | ((with_reducible first | apply forkD | apply forkB | apply forkN | apply forkNP | apply forkNot) <;> intro _) | ((with_reducible_and_instances apply unop_not); (· rfl)))
  refine ok_prin d.principals a.says _ _ _ _ _ _ _ _ ((hd.s0.mono z.inc).lay _ _) _ (fun h' x => ?_)
  ((skip); replace z := z.overW x (by (try simp only [lsz]); omega); (try replace q0 := q0.over x); (try replace e0 := e0.over x); rw [lay_nil h'])
  cases hh : hasS d.principals a.says
  · repeat' (first | simp -implicitDefEqProofs only [syms, symx, seval, c149, Bool.not_false] | ((with_reducible first | apply forkD | apply forkB | apply forkN | apply forkNP | apply forkNot) <;> intro _) | ((with_reducible_and_instances apply unop_not); (· rfl)))
    exact h2k _ _ (by decide) (z.upW _ _ (by omega))
  repeat' (first | simp -implicitDefEqProofs only [syms, symx, seval, c149, Bool.not_true, q0.lay, e0.lay, ↓cut_pol, agg_pol, valE_pol, cell_v0, cell_v1, cell_v2] | ((with_reducible first | apply forkD | apply forkB | apply forkN | apply forkNP | apply forkNot) <;> intro _) | ((with_reducible_and_instances apply unop_not); (· rfl)))
  refine ok_arityW d.preds a.pred _ _ _ _ _ _ _ _ ((hd.s1.mono z.inc).lay _ _) _ (fun nn bb h' x => ?_)
  ((skip); replace z := z.overW x (by (try simp only [lsz]); omega); (try replace q0 := q0.over x); (try replace e0 := e0.over x); rw [lay_nil h'])
  cases bb
  · repeat' (first | simp -implicitDefEqProofs only [syms, symx, seval, c149, Bool.not_false] | ((with_reducible first | apply forkD | apply forkB | apply forkN | apply forkNP | apply forkNot) <;> intro _) | ((with_reducible_and_instances apply unop_not); (· rfl)))
    exact h2k _ _ (by decide) (z.upW _ _ (by omega))
  repeat' (first | simp -implicitDefEqProofs only [syms, symx, seval, c149, Bool.not_true, e0.lay, cell_v2] | ((with_reducible first | apply forkD | apply forkB | apply forkN | apply forkNP | apply forkNot) <;> intro _) | ((with_reducible_and_instances apply unop_not); (· rfl)))
  · exact h2k _ _ (by decide) (z.upW _ _ (by omega))
  · exact h1k hv _ (z.upW _ _ (by omega))
theorem ok_clause12 (d : PolicyD) (a : AtomD) (l : List AtomD) (v : Value) (p0 p1 p2 p5 p6 : Value) (q b : Int) (h : Heap) (hone : (polCells p0 p1 p2 p5 p6 q b).all Am.one = true) (hd : PolH h p0 p1 p2 p5 p6 d) (hl : Sl Rep.atom h v l) (K : Value → Heap → Prop) (h1k : ValidD a → (∀ x ∈ l, ValidD x) → l.length ≤ 6 → ∀ h', Ext h h' → K (.int .i64 0) h') (h2k : ∀ c h', c ≠ 0 → Ext h h' → K (.int .i64 c) h') : Ok Try.prog tab ov 103 [polVal p0 p1 p2 p5 p6 q b, a.val, v] h K := by
  rw [lay_nil h]
  have z := Ext.refl h
  have hva := vSelf v
  have hlv := fun (hh : Heap) => hl.lenA ds23 hh
  refine Ok.into rfl tab_fn103 (bodyF N103) rfl (m := 30) rfl ?_
  repeat' (first | simp -implicitDefEqProofs only [syms, symx, seval, c103, cells_pol, cells_atom, ↓cut_pol, agg_pol, valE_pol, ↓cut_atom, agg_atom, valE_atom, hva] | ((with_reducible first | apply forkD | apply forkB | apply forkN | apply forkNP | apply forkNot) <;> intro _) | ((with_reducible refine ⟨z.grw.lay _ _, ?_⟩); (intro _ h' zz x _); (try simp only [lay_lay, List.append_nil] at x); (try replace q0 := q0.over x); (try replace e0 := e0.over x); (replace z := zz); (clear zz); rw [lay_nil h']))
  refine ok_atom12 d a _ _ _ _ _ _ _ _ hone (hd.lay _ _) _ (fun hv h' x => ?_) (fun c h' hc x => ?_)
  rotate_left
  · ((first | ((with_reducible refine KOpsX_call ?_ ?_ ?_); (· exact (by (try simp only [lsz]); have := z.size; omega)); (· first | exact x | simpa only [lla] using x)) | skip); replace z := z.overW x (by (try simp only [lsz]); omega); (try replace q0 := q0.over x); (try replace e0 := e0.over x); rw [lay_nil h'])
    repeat' (first | simp -implicitDefEqProofs only [syms, symx, seval, c103] | ((with_reducible first | apply forkD | apply forkB | apply forkN | apply forkNP | apply forkNot) <;> intro _) | ((with_reducible refine ⟨z.grw.lay _ _, ?_⟩); (intro _ h' zz x _); (try simp only [lay_lay, List.append_nil] at x); (try replace q0 := q0.over x); (try replace e0 := e0.over x); (replace z := zz); (clear zz); rw [lay_nil h']))
    all_goals first
      | exact h2k _ _ hc (z.upW _ _ (by omega))
      | (exfalso; omega)
  have q0 := Holds.top (i := 0) x rfl
  ((first | ((with_reducible refine KOpsX_call ?_ ?_ ?_); (· exact (by (try simp only [lsz]); have := z.size; omega)); (· first | exact x | simpa only [lla] using x)) | skip); replace z := z.overW x (by (try simp only [lsz]); omega); (try replace q0 := q0.over x); rw [lay_nil h'])
  obtain ⟨A0, hA0⟩ : ∃ A0, A0 = h.size + 0 := ⟨_, rfl⟩
  rw [← hA0] at q0
  rw [← hA0]
  repeat' (first | simp -implicitDefEqProofs only [syms, symx, seval, c103, hva, hlv] | ((with_reducible first | apply forkD | apply forkB | apply forkN | apply forkNP | apply forkNot) <;> intro _) | ((with_reducible refine ⟨z.grw.lay _ _, ?_⟩); (intro _ h' zz x _); (try simp only [lay_lay, List.append_nil] at x); (try replace q0 := q0.over x); (replace z := zz); (clear zz); rw [lay_nil h']))
  · exact h2k _ _ (by decide) (z.upW _ _ (by omega))
  obtain ⟨I1, hI1⟩ : ∃ I : Nat → Env → Heap → Prop, I = (fun n e h' => ∃ (i : Nat) (h1 : Heap), h' = h1.lay [] h1.low ∧ Ext h h1 ∧ (n = l.length - i ∧ i ≤ l.length ∧ (∀ x ∈ l.take i, ValidD x) ∧ Holds h1 A0 (.row (polCells p0 p1 p2 p5 p6 q b) 66 false)) ∧ ∃ J : Nat → Value, e = (jr J 0 2 (v :: .pointer (some ⟨A0, 0, none⟩) :: jr J 4 4 (.int .i64 i :: jr J 9 24 ([]))))) := ⟨_, rfl⟩
  refine W_loopN I1 _ (by rw [hI1]; exact ⟨0, _, rfl, z, ⟨rfl, by omega, by simp, q0⟩, junk (by kernel_rfl)⟩) ?_
  intro n e h' hin
  rw [hI1] at hin
  obtain ⟨i, h1', rfl, z, hinv, J, rfl⟩ := hin
  clear q0
  obtain ⟨rfl, hi, hall, q0⟩ := hinv
  have hw : IntKind.i64.wrap ((i : Int) + 1) = ((i + 1 : Nat) : Int) := by rw [wrap_i64 (by omega) (by omega)]; omega
  simp -implicitDefEqProofs only [syms, symx, seval, c103, hva, hlv]
  refine forkD (fun hlt => ?_) (fun hlt => ?_)
  rotate_left
  · rw [List.take_of_length_le (by omega)] at hall
    repeat' (first | simp -implicitDefEqProofs only [syms, symx, seval, c103] | ((with_reducible first | apply forkD | apply forkB | apply forkN | apply forkNP | apply forkNot) <;> intro _) | ((with_reducible refine ⟨z.grw.lay _ _, ?_⟩); (intro _ h' zz x _); (try simp only [lay_lay, List.append_nil] at x); (try replace q0 := q0.over x); (replace z := zz); (clear zz); rw [lay_nil h']))
    exact h1k hv hall (by omega) _ (z.upW _ _ (by omega))
  obtain ⟨r, hr, hr'⟩ := amElem (l := l) (i := i) (by omega)
  repeat' (first | simp -implicitDefEqProofs only [syms, symx, seval, c103, q0.lay, ↓cut_pol, agg_pol, valE_pol, hva] | with_reducible refine drawN (by simp only [c103]) (z.upW _ _ (by omega)) ?_ | ((with_reducible first | apply forkD | apply forkB | apply forkN | apply forkNP | apply forkNot) <;> intro _) | with_reducible_and_instances refine ixa_at (hl.mono z.inc) ds23 sz39 (by omega) hr (fun p hp => ?_) | with_reducible_and_instances refine lda hp ag39 sz39 ?_ | ((with_reducible refine ⟨z.grw.lay _ _, ?_⟩); (intro _ h' zz x _); (try simp only [lay_lay, List.append_nil] at x); (try replace q0 := q0.over x); (replace z := zz); (clear zz); rw [lay_nil h']))
  refine ok_atom12 d r _ _ _ _ _ _ _ _ hone ((hd.mono z.inc).lay _ _) _ (fun hvr h' x => ?_) (fun c h' hc x => ?_)
  · ((first | ((with_reducible refine KOpsX_call ?_ ?_ ?_); (· exact (by (try simp only [lsz]); have := z.size; omega)); (· first | exact x | simpa only [lla] using x)) | skip); replace z := z.overW x (by (try simp only [lsz]); omega); (try replace q0 := q0.over x); rw [lay_nil h'])
    repeat' (first | simp -implicitDefEqProofs only [syms, symx, seval, c103] | with_reducible refine drawN (by simp only [c103]) (z.upW _ _ (by omega)) ?_ | ((with_reducible first | apply forkD | apply forkB | apply forkN | apply forkNP | apply forkNot) <;> intro _) | with_reducible_and_instances refine ixa_at (hl.mono z.inc) ds23 sz39 (by omega) hr (fun p hp => ?_) | with_reducible_and_instances refine lda hp ag39 sz39 ?_ | ((with_reducible refine ⟨z.grw.lay _ _, ?_⟩); (intro _ h' zz x _); (try simp only [lay_lay, List.append_nil] at x); (try replace q0 := q0.over x); (replace z := zz); (clear zz); rw [lay_nil h']))
    rw [hw]
    (rw [hI1]; with_reducible refine loopN_normal (m := _) ?_ ⟨i + 1, _, rfl, z, ⟨rfl, by omega, take_all (i := i) (P := ValidD) hr' hall hvr, q0⟩, junk (by kernel_rfl)⟩; omega)
  · ((first | ((with_reducible refine KOpsX_call ?_ ?_ ?_); (· exact (by (try simp only [lsz]); have := z.size; omega)); (· first | exact x | simpa only [lla] using x)) | skip); replace z := z.overW x (by (try simp only [lsz]); omega); (try replace q0 := q0.over x); rw [lay_nil h'])
    repeat' (first | simp -implicitDefEqProofs only [syms, symx, seval, c103] | with_reducible refine drawN (by simp only [c103]) (z.upW _ _ (by omega)) ?_ | ((with_reducible first | apply forkD | apply forkB | apply forkN | apply forkNP | apply forkNot) <;> intro _) | with_reducible_and_instances refine ixa_at (hl.mono z.inc) ds23 sz39 (by omega) hr (fun p hp => ?_) | with_reducible_and_instances refine lda hp ag39 sz39 ?_ | ((with_reducible refine ⟨z.grw.lay _ _, ?_⟩); (intro _ h' zz x _); (try simp only [lay_lay, List.append_nil] at x); (try replace q0 := q0.over x); (replace z := zz); (clear zz); rw [lay_nil h']))
    all_goals first
      | exact h2k _ _ hc (z.upW _ _ (by omega))
      | (exfalso; omega)
theorem bb_tt : binA Try.prog tab .eql 4 (.bool true) (.bool true) = some (.bool true) := by kernel_rfl
theorem bb_tf : binA Try.prog tab .eql 4 (.bool true) (.bool false) = some (.bool false) := by kernel_rfl
theorem bb_ft : binA Try.prog tab .eql 4 (.bool false) (.bool true) = some (.bool false) := by kernel_rfl
theorem bb_ff : binA Try.prog tab .eql 4 (.bool false) (.bool false) = some (.bool true) := by kernel_rfl
theorem cell_argB (a : AtomD) (i : Nat) (hi : i < 4) : a.cells[3 + i * 2 + 0]? = some (.bool (a.arg i).v) := by
  have : i = 0 ∨ i = 1 ∨ i = 2 ∨ i = 3 := by omega
  rcases this with rfl | rfl | rfl | rfl <;> rfl
theorem cell_argS (a : AtomD) (i : Nat) (hi : i < 4) : a.cells[3 + i * 2 + 1]? = some (.string (a.arg i).s) := by
  have : i = 0 ∨ i = 1 ∨ i = 2 ∨ i = 3 := by omega
  rcases this with rfl | rfl | rfl | rfl <;> rfl
theorem ok_namesW (a : AtomD) (bv : Bool) (h : Heap) (K : Value → Heap → Prop) (hk : ∀ w l h', Ext h h' → Sl Rep.str h' w l → l.length ≤ 4 → K w h') : Ok Try.prog tab ov 180 [a.val, .bool bv] h K := by
  rw [lay_nil h]
  have z := Ext.refl h
  have hcn : a.cnt ≤ 4 := by unfold AtomD.cnt; omega
  refine Ok.into rfl tab_fn180 (bodyF N180) rfl (m := 50) rfl ?_
  repeat' (first | simp -implicitDefEqProofs only [syms, symx, seval, c180, cells_atom] | ((with_reducible first | apply forkD | apply forkB | apply forkN | apply forkNP | apply forkNot) <;> intro _) | with_reducible_and_instances refine ixa_at (hl.mono z.inc) ds23 sz39 (by omega) hr (fun p hp => ?_) | with_reducible_and_instances refine lda hp ag39 sz39 ?_ | ((with_reducible_and_instances apply unop_not); (· rfl)) | ((with_reducible refine ⟨z.grw.lay _ _, ?_⟩); (intro _ h' zz x _); (try simp only [lay_lay, List.append_nil] at x); (try replace q0 := q0.over x); (replace z := zz); (clear zz); rw [lay_nil h']))
  refine W_fold (fun h' x hq => ?_)
  have q0 := hq 0 _ rfl
  clear hq
  (replace z := z.overW x (by (try simp only [lsz]); omega); rw [lay_nil h'])
  have hz0 := z.size
  obtain ⟨A0, hA0⟩ : ∃ A0, A0 = h.size + 0 := ⟨_, rfl⟩
  rw [← hA0] at q0
  rw [← hA0]
  have q0l := q0.lt
  obtain ⟨I1, hI1⟩ : ∃ I : Nat → Env → Heap → Prop, I = (fun n e h' => ∃ (i : Nat) (wv : Value) (A : Nat) (l : List ByteArray) (h1 : Heap), h' = h1.lay [] h1.low ∧ Ext h h1 ∧ (n = a.cnt - i ∧ i ≤ a.cnt ∧ l.length ≤ i ∧ Ow Rep.str h h1 9 A wv l ∧ A ≠ A0 ∧ Holds h1 A0 (.row a.cells 39 false)) ∧ ∃ J : Nat → Value, e = (J 0 :: .bool bv :: .pointer (some ⟨A0, 0, none⟩) :: jr J 3 2 (wv :: .int .i64 i :: jr J 7 45 ([])))) := ⟨_, rfl⟩
  refine W_loopN I1 _ (by rw [hI1]; exact ⟨0, .slice none 0 0, A0 + 1, [], _, rfl, z, ⟨rfl, by omega, by simp, Ow.nil (by omega), by omega, q0⟩, junk (by kernel_rfl)⟩) ?_
  intro n e h' hin
  rw [hI1] at hin
  obtain ⟨i, wv, A, l, h1', rfl, z, hinv, J, rfl⟩ := hin
  clear q0
  obtain ⟨rfl, hi, hll, ow, hAA, q0⟩ := hinv
  have hw : IntKind.i64.wrap ((i : Int) + 1) = ((i + 1 : Nat) : Int) := by rw [wrap_i64 (by omega) (by omega)]; omega
  have hvw := vSelf wv
  simp -implicitDefEqProofs only [syms, symx, seval, c180, q0.lay, ↓cut_atom, agg_atom, valE_atom]
  refine ok_count a _ _ (fun h' x => ?_)
  ((first | ((with_reducible refine KOpsX_call ?_ ?_ ?_); (· exact (by (try simp only [lsz]); have := z.size; omega)); (· first | exact x | simpa only [lla] using x)) | skip); replace z := z.overW x (by (try simp only [lsz]); omega); (try replace q0 := q0.over x); (try replace ow := ow.over x); rw [lay_nil h'])
  simp -implicitDefEqProofs only [syms, symx, seval, c180]
  refine forkD (fun hlt => ?_) (fun hlt => ?_)
  rotate_left
  · repeat' (first | simp -implicitDefEqProofs only [syms, symx, seval, c180, hvw] | ((with_reducible first | apply forkD | apply forkB | apply forkN | apply forkNP | apply forkNot) <;> intro _) | with_reducible_and_instances refine ixa_at (hl.mono z.inc) ds23 sz39 (by omega) hr (fun p hp => ?_) | with_reducible_and_instances refine lda hp ag39 sz39 ?_ | ((with_reducible_and_instances apply unop_not); (· rfl)) | ((with_reducible refine ⟨z.grw.lay _ _, ?_⟩); (intro _ h' zz x _); (try simp only [lay_lay, List.append_nil] at x); (try replace q0 := q0.over x); (try replace ow := ow.over x); (replace z := zz); (clear zz); rw [lay_nil h']))
    exact hk _ _ _ (z.upW _ _ (by omega)) ((ow.sl (by decide)).lay _ _) (by omega)
  repeat' (first | simp -implicitDefEqProofs only [syms, symx, seval, c180] | ((with_reducible first | apply forkD | apply forkB | apply forkN | apply forkNP | apply forkNot) <;> intro _) | with_reducible_and_instances refine ixa_at (hl.mono z.inc) ds23 sz39 (by omega) hr (fun p hp => ?_) | with_reducible_and_instances refine lda hp ag39 sz39 ?_ | ((with_reducible_and_instances apply unop_not); (· rfl)) | ((with_reducible refine ⟨z.grw.lay _ _, ?_⟩); (intro _ h' zz x _); (try simp only [lay_lay, List.append_nil] at x); (try replace q0 := q0.over x); (try replace ow := ow.over x); (replace z := zz); (clear zz); rw [lay_nil h']))
  obtain ⟨I2, hI2⟩ : ∃ I : Nat → Env → Heap → Prop, I = (fun n e h' => ∃ (k : Nat) (b : Bool) (h1 : Heap), h' = h1.lay [] h1.low ∧ Ext h h1 ∧ (n = i - k ∧ k ≤ i ∧ Ow Rep.str h h1 9 A wv l ∧ Holds h1 A0 (.row a.cells 39 false)) ∧ ∃ J : Nat → Value, e = (J 0 :: .bool bv :: .pointer (some ⟨A0, 0, none⟩) :: jr J 3 2 (wv :: .int .i64 i :: .bool b :: .int .i64 k :: jr J 9 43 ([])))) := ⟨_, rfl⟩
  refine W_loopN I2 _ (by rw [hI2]; exact ⟨0, false, _, rfl, z, ⟨rfl, by omega, ow, q0⟩, junk (by kernel_rfl)⟩) ?_
  intro n e h' hin
  rw [hI2] at hin
  obtain ⟨k, b, h1', rfl, z, hinv, J, rfl⟩ := hin
  clear q0 ow
  obtain ⟨rfl, hk1, ow, q0⟩ := hinv
  have hwk : IntKind.i64.wrap ((k : Int) + 1) = ((k + 1 : Nat) : Int) := by rw [wrap_i64 (by omega) (by omega)]; omega
  have hi4 : (0 : Int) ≤ (i : Int) ∧ (i : Int) < 4 := by omega
  have hca := cut_argV a i (by omega)
  simp -implicitDefEqProofs only [syms, symx, seval, c180]
  refine forkD (fun hlt2 => ?_) (fun hlt2 => ?_)
  · have hk4 : (0 : Int) ≤ (k : Int) ∧ (k : Int) < 4 := by omega
    have hcb := cut_argV a k (by omega)
    cases b
    · repeat' (first | simp -implicitDefEqProofs only [syms, symx, seval, c180, q0.lay, hi4, hk4, ↓hca, ↓hcb, agg_term2, valE_term, and_self, if_true, bin_termE] | with_reducible refine drawN (by simp only [c180]) (z.upW _ _ (by omega)) ?_ | ((with_reducible first | apply forkD | apply forkB | apply forkN | apply forkNP | apply forkNot) <;> intro _) | with_reducible_and_instances refine ixa_at (hl.mono z.inc) ds23 sz39 (by omega) hr (fun p hp => ?_) | with_reducible_and_instances refine lda hp ag39 sz39 ?_ | ((with_reducible_and_instances apply unop_not); (· rfl)) | ((with_reducible refine ⟨z.grw.lay _ _, ?_⟩); (intro _ h' zz x _); (try simp only [lay_lay, List.append_nil] at x); (try replace q0 := q0.over x); (try replace ow := ow.over x); (replace z := zz); (clear zz); rw [lay_nil h']))
      all_goals rw [hwk]
      · (rw [hI2]; with_reducible refine loopN_normal (m := _) ?_ ⟨k + 1, true, _, rfl, z, ⟨rfl, by omega, ow, q0⟩, junk (by kernel_rfl)⟩; omega)
      · (rw [hI2]; with_reducible refine loopN_normal (m := _) ?_ ⟨k + 1, false, _, rfl, z, ⟨rfl, by omega, ow, q0⟩, junk (by kernel_rfl)⟩; omega)
    · repeat' (first | simp -implicitDefEqProofs only [syms, symx, seval, c180, q0.lay, hi4, hk4, ↓hca, ↓hcb, agg_term2, valE_term, and_self, if_true] | with_reducible refine drawN (by simp only [c180]) (z.upW _ _ (by omega)) ?_ | ((with_reducible first | apply forkD | apply forkB | apply forkN | apply forkNP | apply forkNot) <;> intro _) | with_reducible_and_instances refine ixa_at (hl.mono z.inc) ds23 sz39 (by omega) hr (fun p hp => ?_) | with_reducible_and_instances refine lda hp ag39 sz39 ?_ | ((with_reducible_and_instances apply unop_not); (· rfl)) | ((with_reducible refine ⟨z.grw.lay _ _, ?_⟩); (intro _ h' zz x _); (try simp only [lay_lay, List.append_nil] at x); (try replace q0 := q0.over x); (try replace ow := ow.over x); (replace z := zz); (clear zz); rw [lay_nil h']))
      rw [hwk]
      (rw [hI2]; with_reducible refine loopN_normal (m := _) ?_ ⟨k + 1, true, _, rfl, z, ⟨rfl, by omega, ow, q0⟩, junk (by kernel_rfl)⟩; omega)
  have hcB := cell_argB a i (by omega)
  have hcS := cell_argS a i (by omega)
  have hws : IntKind.i64.wrap ((i : Int) + 1) = ((i + 1 : Nat) : Int) := hw
  obtain ⟨vb, hvb⟩ : ∃ vb, (a.arg i).v = vb := ⟨_, rfl⟩
  rw [hvb] at hcB
  have hvbE : ∀ (h : Heap) (K : Value → Heap → Prop), valE (some (.bool vb)) h K = K (.bool vb) h := fun _ _ => rfl
  cases vb
  all_goals
    cases bv
    all_goals
      cases b
      all_goals
        repeat' (first | simp -implicitDefEqProofs only [syms, symx, seval, c180, q0.lay, hi4, and_self, if_true, hcB, hcS, hvw, bb_tt, bb_tf, bb_ft, bb_ff, Bool.not_false, Bool.not_true] | ((with_reducible first | apply forkD | apply forkB | apply forkN | apply forkNP | apply forkNot) <;> intro _) | with_reducible_and_instances refine ixa_at (hl.mono z.inc) ds23 sz39 (by omega) hr (fun p hp => ?_) | with_reducible_and_instances refine lda hp ag39 sz39 ?_ | ((with_reducible_and_instances apply unop_not); (· rfl)) | ((with_reducible refine ⟨z.grw.lay _ _, ?_⟩); (intro _ h' zz x _); (try simp only [lay_lay, List.append_nil] at x); (try replace q0 := q0.over x); (try replace ow := ow.over x); (replace z := zz); (clear zz); rw [lay_nil h']))
  all_goals first
    | (rw [hw]
       (rw [hI1]; with_reducible refine loopN_normal (m := _) ?_ ⟨i + 1, wv, A, l, _, rfl, z, ⟨rfl, by omega, by omega, ow, hAA, q0⟩, junk (by kernel_rfl)⟩; omega))
    | skip
  all_goals
    simp -implicitDefEqProofs only [syms, symx, seval, c180, w_append, sty60]
    have hHs : (h1'.lay [Blk.row [Value.string (a.arg i).s] 9 false] h1'.low).size = h1'.size + 1 := by rw [lay_size]; rfl
    obtain ⟨hs1, hsr⟩ := src_row (r := Rep.str) (A := A) (c := 1) (y := (a.arg i).s) (by decide) (show (h1'.lay [Blk.row [Value.string (a.arg i).s] 9 false] h1'.low).get (h1'.size + 0) = some (.row [Value.string (a.arg i).s] 9 false) by rw [lay_get]; rfl) rfl
    have hz := z.size
    obtain ⟨w', h2, A', e1, e2, e3, e4, e5⟩ := app_ow (t := 60) ds60 tab_info9 rfl (by decide) (by rw [hHs]; omega) (ow.mono (Inc.lay _ _ _)) hs1 hsr (by omega) (by omega)
    have hfA := ow.fresh
    have q0l := q0.lt
    rw [hHs] at e4
    replace z := (z.upW [Blk.row [Value.string (a.arg i).s] 9 false] h1'.low (by omega)).step e3 hfA
    have q1 := q0.stepL e3 (by omega)
    rw [e1, lay_nil h2]
    clear q0 ow
  all_goals
    repeat' (first | simp -implicitDefEqProofs only [syms, symx, seval, c180] | ((with_reducible first | apply forkD | apply forkB | apply forkN | apply forkNP | apply forkNot) <;> intro _) | with_reducible_and_instances refine ixa_at (hl.mono z.inc) ds23 sz39 (by omega) hr (fun p hp => ?_) | with_reducible_and_instances refine lda hp ag39 sz39 ?_ | ((with_reducible_and_instances apply unop_not); (· rfl)) | ((with_reducible refine ⟨z.grw.lay _ _, ?_⟩); (intro _ h' zz x _); (try simp only [lay_lay, List.append_nil] at x); (try replace q0 := q0.over x); (try replace ow := ow.over x); (replace z := zz); (clear zz); rw [lay_nil h']))
    rw [hw]
    (rw [hI1]; with_reducible refine loopN_normal (m := _) ?_ ⟨i + 1, w', A', l ++ [(a.arg i).s], _, rfl, z, ⟨rfl, by omega, by rw [List.length_append, List.length_singleton]; omega, e2, by omega, q1⟩, junk (by kernel_rfl)⟩; omega)
theorem ok_varsW (a : AtomD) (h : Heap) (K : Value → Heap → Prop) (hk : ∀ w l h', Ext h h' → Sl Rep.str h' w l → l.length ≤ 4 → K w h') : Ok Try.prog tab ov 150 [a.val] h K := by
  rw [lay_nil h]
  have z := Ext.refl h
  refine Ok.into rfl tab_fn150 (bodyF N150) rfl (m := 4) rfl ?_
  repeat' (first | simp -implicitDefEqProofs only [syms, symx, seval, c150, cells_atom, ↓cut_atom, agg_atom, valE_atom] | ((with_reducible first | apply forkD | apply forkB | apply forkN | apply forkNP | apply forkNot) <;> intro _) | with_reducible_and_instances refine ixa_at (hl.mono z.inc) ds23 sz39 (by omega) hr (fun p hp => ?_) | with_reducible_and_instances refine lda hp ag39 sz39 ?_)
  refine ok_namesW a true _ _ (fun w l h' x s hl => ?_)
  ((skip); replace z := z.overW x (by (try simp only [lsz]); omega); rw [lay_nil h'])
  have hvw := vSelf w
  repeat' (first | simp -implicitDefEqProofs only [syms, symx, seval, c150, hvw] | ((with_reducible first | apply forkD | apply forkB | apply forkN | apply forkNP | apply forkNot) <;> intro _) | with_reducible_and_instances refine ixa_at (hl.mono z.inc) ds23 sz39 (by omega) hr (fun p hp => ?_) | with_reducible_and_instances refine lda hp ag39 sz39 ?_)
  exact hk _ _ _ (z.upW _ _ (by omega)) (s.lay _ _) hl
theorem bld_term (s : ByteArray) : buildA tab 36 [(0, .bool true), (1, .string s)] = some (.agg ⟨[.bool true, .string s]⟩) := by kernel_rfl
theorem bin_termV (a : TermD) (s : ByteArray) : binA Try.prog tab .eql 36 a.val (.agg ⟨[.bool true, .string s]⟩) = some (.bool (decide (a = ⟨true, s⟩))) := bin_termE a ⟨true, s⟩
theorem ok_ranged (a : AtomD) (l : List AtomD) (v : Value) (h : Heap) (hl : Sl Rep.atom h v l) (hn : l.length ≤ 6) (hvl : ∀ x ∈ l, ValidD x) (K : Value → Heap → Prop) (hk : ∀ b h', Ext h h' → K (.bool b) h') : Ok Try.prog tab ov 104 [a.val, v] h K := by
  rw [lay_nil h]
  have z := Ext.refl h
  have hva := vSelf v
  have hlv := fun (hh : Heap) => hl.lenA ds23 hh
  refine Ok.into rfl tab_fn104 (bodyF N104) rfl (m := 49) rfl ?_
  repeat' (first | simp -implicitDefEqProofs only [syms, symx, seval, c104, cells_atom, ↓cut_atom, agg_atom, valE_atom, hva] | ((with_reducible first | apply forkD | apply forkB | apply forkN | apply forkNP | apply forkNot) <;> intro _) | ((with_reducible_and_instances apply unop_not); (· rfl)) | ((with_reducible refine ⟨z.grw.lay _ _, ?_⟩); (intro _ h' zz x _); (try simp only [lay_lay, List.append_nil] at x); (replace z := zz); (clear zz); rw [lay_nil h']))
  refine ok_varsW a _ _ (fun w ns h' x sn hnl => ?_)
  ((first | ((with_reducible refine KOpsX_call ?_ ?_ ?_); (· exact (by (try simp only [lsz]); have := z.size; omega)); (· first | exact x | simpa only [lla] using x)) | skip); replace z := z.overW x (by (try simp only [lsz]); omega); rw [lay_nil h'])
  have hw := vSelf w
  repeat' (first | simp -implicitDefEqProofs only [syms, symx, seval, c104, hw] | ((with_reducible first | apply forkD | apply forkB | apply forkN | apply forkNP | apply forkNot) <;> intro _) | ((with_reducible_and_instances apply unop_not); (· rfl)) | ((with_reducible refine ⟨z.grw.lay _ _, ?_⟩); (intro _ h' zz x _); (try simp only [lay_lay, List.append_nil] at x); (replace z := zz); (clear zz); rw [lay_nil h']))
  have hlw := fun (hh : Heap) => sn.lenA ds60 hh
  obtain ⟨I1, hI1⟩ : ∃ I : Nat → Env → Heap → Prop, I = (fun n e h' => ∃ (i : Nat) (h1 : Heap), h' = h1.lay [] h1.low ∧ Ext h h1 ∧ (n = ns.length - i ∧ i ≤ ns.length ∧ Sl Rep.str h1 w ns) ∧ ∃ J : Nat → Value, e = (J 0 :: v :: jr J 2 3 (w :: .int .i64 i :: jr J 7 44 ([])))) := ⟨_, rfl⟩
  refine W_loopN I1 _ (by rw [hI1]; exact ⟨0, _, rfl, z, ⟨rfl, by omega, sn⟩, junk (by kernel_rfl)⟩) ?_
  intro n e h' hin
  rw [hI1] at hin
  obtain ⟨i, h1', rfl, z, hinv, J, rfl⟩ := hin
  clear sn
  obtain ⟨rfl, hi, sn⟩ := hinv
  have hwi : IntKind.i64.wrap ((i : Int) + 1) = ((i + 1 : Nat) : Int) := by rw [wrap_i64 (by omega) (by omega)]; omega
  simp -implicitDefEqProofs only [syms, symx, seval, c104, hw, hlw]
  refine forkD (fun hlt => ?_) (fun hlt => ?_)
  rotate_left
  · repeat' (first | simp -implicitDefEqProofs only [syms, symx, seval, c104] | ((with_reducible first | apply forkD | apply forkB | apply forkN | apply forkNP | apply forkNot) <;> intro _) | ((with_reducible_and_instances apply unop_not); (· rfl)) | ((with_reducible refine ⟨z.grw.lay _ _, ?_⟩); (intro _ h' zz x _); (try simp only [lay_lay, List.append_nil] at x); (try replace sn := sn.over x); (replace z := zz); (clear zz); rw [lay_nil h']))
    exact hk _ _ (z.upW _ _ (by omega))
  obtain ⟨s, hs, hs'⟩ := amElem (l := ns) (i := i) (by omega)
  repeat' (first | simp -implicitDefEqProofs only [syms, symx, seval, c104] | ((with_reducible first | apply forkD | apply forkB | apply forkN | apply forkNP | apply forkNot) <;> intro _) | ((with_reducible_and_instances apply unop_not); (· rfl)) | ((with_reducible refine ⟨z.grw.lay _ _, ?_⟩); (intro _ h' zz x _); (try simp only [lay_lay, List.append_nil] at x); (try replace sn := sn.over x); (replace z := zz); (clear zz); rw [lay_nil h']))
  obtain ⟨I2, hI2⟩ : ∃ I : Nat → Env → Heap → Prop, I = (fun n e h' => ∃ (k : Nat) (b : Bool) (h1 : Heap), h' = h1.lay [] h1.low ∧ Ext h h1 ∧ (n = l.length - k ∧ k ≤ l.length ∧ Sl Rep.str h1 w ns) ∧ ∃ J : Nat → Value, e = (J 0 :: v :: jr J 2 3 (w :: .int .i64 i :: .bool b :: .int .i64 k :: jr J 9 42 ([])))) := ⟨_, rfl⟩
  refine W_loopN I2 _ (by rw [hI2]; exact ⟨0, false, _, rfl, z, ⟨rfl, by omega, sn⟩, junk (by kernel_rfl)⟩) ?_
  intro n e h' hin
  rw [hI2] at hin
  obtain ⟨k, b, h1', rfl, z, hinv, J, rfl⟩ := hin
  clear sn
  obtain ⟨rfl, hk1, sn⟩ := hinv
  have hwk : IntKind.i64.wrap ((k : Int) + 1) = ((k + 1 : Nat) : Int) := by rw [wrap_i64 (by omega) (by omega)]; omega
  simp -implicitDefEqProofs only [syms, symx, seval, c104, hva, hlv]
  refine forkD (fun hlt2 => ?_) (fun hlt2 => ?_)
  · obtain ⟨r, hr, hr'⟩ := amElem (l := l) (i := k) (by omega)
    have hvr := hvl _ (List.mem_of_getElem? hr')
    repeat' (first | simp -implicitDefEqProofs only [syms, symx, seval, c104] | ((with_reducible first | apply forkD | apply forkB | apply forkN | apply forkNP | apply forkNot) <;> intro _) | ((with_reducible_and_instances apply unop_not); (· rfl)) | ((with_reducible refine ⟨z.grw.lay _ _, ?_⟩); (intro _ h' zz x _); (try simp only [lay_lay, List.append_nil] at x); (try replace sn := sn.over x); (replace z := zz); (clear zz); rw [lay_nil h']))
    obtain ⟨I3, hI3⟩ : ∃ I : Nat → Env → Heap → Prop, I = (fun n e h' => ∃ (m : Nat) (b : Bool) (h1 : Heap), h' = h1.lay [] h1.low ∧ Ext h h1 ∧ (n = 4 - m ∧ m ≤ 4 ∧ Sl Rep.str h1 w ns) ∧ ∃ J : Nat → Value, e = (J 0 :: v :: jr J 2 3 (w :: .int .i64 i :: .bool b :: .int .i64 k :: .int .i64 m :: jr J 10 41 ([])))) := ⟨_, rfl⟩
    refine W_loopN I3 _ (by rw [hI3]; exact ⟨0, b, _, rfl, z, ⟨rfl, by omega, sn⟩, junk (by kernel_rfl)⟩) ?_
    intro n e h' hin
    rw [hI3] at hin
    obtain ⟨m, b, h1', rfl, z, hinv, J, rfl⟩ := hin
    clear sn
    obtain ⟨rfl, hm, sn⟩ := hinv
    have hwm : IntKind.i64.wrap ((m : Int) + 1) = ((m + 1 : Nat) : Int) := by rw [wrap_i64 (by omega) (by omega)]; omega
    simp -implicitDefEqProofs only [syms, symx, seval, c104, hva]
    repeat' ((first | ((with_reducible first | apply forkD | apply forkB | apply forkN | apply forkNP | apply forkNot) <;> intro _) | with_reducible_and_instances refine ixa_at (hl.mono z.inc) ds23 sz39 (by omega) hr (fun p hp => ?_) | with_reducible_and_instances refine fda2 hp fa39_2 (fun q hq => ?_) | with_reducible_and_instances refine ld_one hq ag3 ?_ | ((with_reducible_and_instances apply unop_not); (· rfl)) | ((with_reducible refine ⟨z.grw.lay _ _, ?_⟩); (intro _ h' zz x _); (try simp only [lay_lay, List.append_nil] at x); (try replace sn := sn.over x); (replace z := zz); (clear zz); rw [lay_nil h'])) <;> simp -implicitDefEqProofs only [syms, symx, seval, c104, hva])
    rotate_left
    · rw [hwk]
      (rw [hI2]; with_reducible refine loopN_normal (m := _) ?_ ⟨k + 1, b, _, rfl, z, ⟨rfl, by omega, sn⟩, junk (by kernel_rfl)⟩; omega)
    have hm4 : m < 4 := by have := hvr.hi; omega
    cases b
    rotate_left
    · repeat' ((first | with_reducible refine drawN (by simp only [c104]) (z.upW _ _ (by omega)) ?_ | ((with_reducible first | apply forkD | apply forkB | apply forkN | apply forkNP | apply forkNot) <;> intro _) | with_reducible_and_instances refine ixa_at (hl.mono z.inc) ds23 sz39 (by omega) hr (fun p hp => ?_) | with_reducible_and_instances refine fda2 hp fa39_2 (fun q hq => ?_) | with_reducible_and_instances refine ld_one hq ag3 ?_ | ((with_reducible_and_instances apply unop_not); (· rfl)) | ((with_reducible refine ⟨z.grw.lay _ _, ?_⟩); (intro _ h' zz x _); (try simp only [lay_lay, List.append_nil] at x); (try replace sn := sn.over x); (replace z := zz); (clear zz); rw [lay_nil h'])) <;> simp -implicitDefEqProofs only [syms, symx, seval, c104, hva, hw])
      rw [hwm]
      (rw [hI3]; with_reducible refine loopN_normal (m := _) ?_ ⟨m + 1, true, _, rfl, z, ⟨rfl, by omega, sn⟩, junk (by kernel_rfl)⟩; omega)
    repeat' ((first | with_reducible refine drawN (by simp only [c104]) (z.upW _ _ (by omega)) ?_ | ((with_reducible first | apply forkD | apply forkB | apply forkN | apply forkNP | apply forkNot) <;> intro _) | with_reducible_and_instances refine ixa_at (hl.mono z.inc) ds23 sz39 (by omega) hr (fun p hp => ?_) | with_reducible_and_instances refine fda3 hp fa39_3 (fun p hp => ?_) | with_reducible_and_instances refine ixg hp ix37 (by omega) (by omega) (fun p hp => ?_) | with_reducible_and_instances refine ldt hp ag36 sz36 ?_ | with_reducible_and_instances refine ixs_at sn ds60 sz9 (by omega) hs (fun p hp => ?_) | with_reducible_and_instances refine ld_one hp ag9 ?_ | ((with_reducible_and_instances apply unop_not); (· rfl)) | ((with_reducible refine ⟨z.grw.lay _ _, ?_⟩); (intro _ h' zz x _); (try simp only [lay_lay, List.append_nil] at x); (try replace sn := sn.over x); (replace z := zz); (clear zz); rw [lay_nil h'])) <;> simp -implicitDefEqProofs only [syms, symx, seval, c104, hva, hw, bld_term, bin_termV])
    all_goals rw [hwm]
    · (rw [hI3]; with_reducible refine loopN_normal (m := _) ?_ ⟨m + 1, true, _, rfl, z, ⟨rfl, by omega, sn⟩, junk (by kernel_rfl)⟩; omega)
    · (rw [hI3]; with_reducible refine loopN_normal (m := _) ?_ ⟨m + 1, false, _, rfl, z, ⟨rfl, by omega, sn⟩, junk (by kernel_rfl)⟩; omega)
  cases b
  · repeat' (first | simp -implicitDefEqProofs only [syms, symx, seval, c104, Bool.not_false] | ((with_reducible first | apply forkD | apply forkB | apply forkN | apply forkNP | apply forkNot) <;> intro _) | with_reducible_and_instances refine ixa_at (hl.mono z.inc) ds23 sz39 (by omega) hr (fun p hp => ?_) | with_reducible_and_instances refine fda3 hp fa39_3 (fun p hp => ?_) | with_reducible_and_instances refine ixg hp ix37 (by omega) (by omega) (fun p hp => ?_) | with_reducible_and_instances refine ldt hp ag36 sz36 ?_ | with_reducible_and_instances refine ixs_at sn ds60 sz9 (by omega) hs (fun p hp => ?_) | with_reducible_and_instances refine ld_one hp ag9 ?_ | ((with_reducible_and_instances apply unop_not); (· rfl)) | ((with_reducible refine ⟨z.grw.lay _ _, ?_⟩); (intro _ h' zz x _); (try simp only [lay_lay, List.append_nil] at x); (try replace sn := sn.over x); (replace z := zz); (clear zz); rw [lay_nil h']))
    exact hk _ _ (z.upW _ _ (by omega))
  · repeat' (first | simp -implicitDefEqProofs only [syms, symx, seval, c104, Bool.not_true] | ((with_reducible first | apply forkD | apply forkB | apply forkN | apply forkNP | apply forkNot) <;> intro _) | with_reducible_and_instances refine ixa_at (hl.mono z.inc) ds23 sz39 (by omega) hr (fun p hp => ?_) | with_reducible_and_instances refine fda3 hp fa39_3 (fun p hp => ?_) | with_reducible_and_instances refine ixg hp ix37 (by omega) (by omega) (fun p hp => ?_) | with_reducible_and_instances refine ldt hp ag36 sz36 ?_ | with_reducible_and_instances refine ixs_at sn ds60 sz9 (by omega) hs (fun p hp => ?_) | with_reducible_and_instances refine ld_one hp ag9 ?_ | ((with_reducible_and_instances apply unop_not); (· rfl)) | ((with_reducible refine ⟨z.grw.lay _ _, ?_⟩); (intro _ h' zz x _); (try simp only [lay_lay, List.append_nil] at x); (try replace sn := sn.over x); (replace z := zz); (clear zz); rw [lay_nil h']))
    rw [hwi]
    (rw [hI1]; with_reducible refine loopN_normal (m := _) ?_ ⟨i + 1, _, rfl, z, ⟨rfl, by omega, sn⟩, junk (by kernel_rfl)⟩; omega)
theorem stg126 (h : Heap) (l : List Blk) (w i o : Nat) (v : Value) (hi : i < l.length) : storeA tab 126 (.pointer (some ⟨h.size + i, o, none⟩)) v (h.lay l w) = if v.cells.size = 13 then storeO l[i]? i o v.cells.toList h l w else none := st_lay sz126 h l w i o v hi
theorem ok_check12 (d : PolicyD) (p0 p1 p2 p5 p6 : Value) (q b : Int) (h : Heap) (hone : (polCells p0 p1 p2 p5 p6 q b).all Am.one = true) (hd : PolH h p0 p1 p2 p5 p6 d) (hn : d.clears.length ≤ 70) (K : Value → Heap → Prop) (h1k : ClrsOk d.principals d.clears → ∀ h', Ext h h' → K (.int .i64 0) h') (h2k : ∀ c h', c ≠ 0 → Ext h h' → K (.int .i64 c) h') : Ok Try.prog tab ov 38 [polVal p0 p1 p2 p5 p6 q b] h K := by
  rw [lay_nil h]
  have z := Ext.refl h
  have hv5 := vSelf p5
  have hv6 := vSelf p6
  have hl5 := fun (hh : Heap) => hd.s5.lenA ds63 hh
  have hl6 := fun (hh : Heap) => hd.s6.lenA ds64 hh
  have hle5 := hd.s5.le
  have hle6 := hd.s6.le
  refine Ok.into rfl tab_fn38 (bodyF N38) rfl (m := 133) rfl ?_
  repeat' (first | simp -implicitDefEqProofs only [syms, symx, seval, c38, cells_pol, ↓cut_pol, agg_pol, valE_pol] | ((with_reducible first | apply forkD | apply forkB | apply forkN | apply forkNP | apply forkNot) <;> intro _) | with_reducible_and_instances refine ixa_at (hl.mono z.inc) ds23 sz39 (by omega) hr (fun p hp => ?_) | with_reducible_and_instances refine fda3 hp fa39_3 (fun p hp => ?_) | with_reducible_and_instances refine ixg hp ix37 (by omega) (by omega) (fun p hp => ?_) | with_reducible_and_instances refine ldt hp ag36 sz36 ?_ | with_reducible_and_instances refine ixs_at sn ds60 sz9 (by omega) hs (fun p hp => ?_) | with_reducible_and_instances refine ld_one hp ag9 ?_ | ((with_reducible_and_instances apply unop_not); (· rfl)) | ((with_reducible refine ⟨z.grw.lay _ _, ?_⟩); (intro _ h' zz x _); (try simp only [lay_lay, List.append_nil] at x); (try replace sn := sn.over x); (replace z := zz); (clear zz); rw [lay_nil h']))
  refine ok_principals d.principals _ _ _ _ _ _ _ _ (hd.s0.lay _ _) _ (fun hpl hpn h' x => ?_) (fun c h' hc x => ?_)
  rotate_left
  · have q0 := Holds.top (i := 0) x rfl
    ((first | ((with_reducible refine KOpsX_call ?_ ?_ ?_); (· exact (by (try simp only [lsz]); have := z.size; omega)); (· first | exact x | simpa only [lla] using x)) | skip); replace z := z.overW x (by (try simp only [lsz]); omega); (try replace q0 := q0.over x); rw [lay_nil h'])
    repeat' (first | simp -implicitDefEqProofs only [syms, symx, seval, c38] | ((with_reducible first | apply forkD | apply forkB | apply forkN | apply forkNP | apply forkNot) <;> intro _) | with_reducible_and_instances refine ixa_at (hl.mono z.inc) ds23 sz39 (by omega) hr (fun p hp => ?_) | with_reducible_and_instances refine fda3 hp fa39_3 (fun p hp => ?_) | with_reducible_and_instances refine ixg hp ix37 (by omega) (by omega) (fun p hp => ?_) | with_reducible_and_instances refine ldt hp ag36 sz36 ?_ | with_reducible_and_instances refine ixs_at sn ds60 sz9 (by omega) hs (fun p hp => ?_) | with_reducible_and_instances refine ld_one hp ag9 ?_ | ((with_reducible_and_instances apply unop_not); (· rfl)) | ((with_reducible refine ⟨z.grw.lay _ _, ?_⟩); (intro _ h' zz x _); (try simp only [lay_lay, List.append_nil] at x); (try replace q0 := q0.over x); (replace z := zz); (clear zz); rw [lay_nil h']))
    all_goals first
      | exact h2k _ _ hc (z.upW _ _ (by omega))
      | (exfalso; omega)
  have q0 := Holds.top (i := 0) x rfl
  ((first | ((with_reducible refine KOpsX_call ?_ ?_ ?_); (· exact (by (try simp only [lsz]); have := z.size; omega)); (· first | exact x | simpa only [lla] using x)) | skip); replace z := z.overW x (by (try simp only [lsz]); omega); (try replace q0 := q0.over x); rw [lay_nil h'])
  obtain ⟨A0, hA0⟩ : ∃ A0, A0 = h.size + 0 := ⟨_, rfl⟩
  rw [← hA0] at q0
  rw [← hA0]
  repeat' (first | simp -implicitDefEqProofs only [syms, symx, seval, c38, q0.lay, ↓cut_pol, agg_pol, valE_pol] | ((with_reducible first | apply forkD | apply forkB | apply forkN | apply forkNP | apply forkNot) <;> intro _) | with_reducible_and_instances refine ixa_at (hl.mono z.inc) ds23 sz39 (by omega) hr (fun p hp => ?_) | with_reducible_and_instances refine fda3 hp fa39_3 (fun p hp => ?_) | with_reducible_and_instances refine ixg hp ix37 (by omega) (by omega) (fun p hp => ?_) | with_reducible_and_instances refine ldt hp ag36 sz36 ?_ | with_reducible_and_instances refine ixs_at sn ds60 sz9 (by omega) hs (fun p hp => ?_) | with_reducible_and_instances refine ld_one hp ag9 ?_ | ((with_reducible_and_instances apply unop_not); (· rfl)) | ((with_reducible refine ⟨z.grw.lay _ _, ?_⟩); (intro _ h' zz x _); (try simp only [lay_lay, List.append_nil] at x); (try replace q0 := q0.over x); (replace z := zz); (clear zz); rw [lay_nil h']))
  refine ok_predsW d.preds _ _ _ _ _ _ _ _ ((hd.s1.mono z.inc).lay _ _) _ (fun c h' x => ?_)
  ((first | ((with_reducible refine KOpsX_call ?_ ?_ ?_); (· exact (by (try simp only [lsz]); have := z.size; omega)); (· first | exact x | simpa only [lla] using x)) | skip); replace z := z.overW x (by (try simp only [lsz]); omega); (try replace q0 := q0.over x); rw [lay_nil h'])
  by_cases hc : c = 0
  rotate_left
  · repeat' (first | simp -implicitDefEqProofs only [syms, symx, seval, c38] | ((with_reducible first | apply forkD | apply forkB | apply forkN | apply forkNP | apply forkNot) <;> intro _) | with_reducible_and_instances refine ixa_at (hl.mono z.inc) ds23 sz39 (by omega) hr (fun p hp => ?_) | with_reducible_and_instances refine fda3 hp fa39_3 (fun p hp => ?_) | with_reducible_and_instances refine ixg hp ix37 (by omega) (by omega) (fun p hp => ?_) | with_reducible_and_instances refine ldt hp ag36 sz36 ?_ | with_reducible_and_instances refine ixs_at sn ds60 sz9 (by omega) hs (fun p hp => ?_) | with_reducible_and_instances refine ld_one hp ag9 ?_ | ((with_reducible_and_instances apply unop_not); (· rfl)) | ((with_reducible refine ⟨z.grw.lay _ _, ?_⟩); (intro _ h' zz x _); (try simp only [lay_lay, List.append_nil] at x); (try replace q0 := q0.over x); (replace z := zz); (clear zz); rw [lay_nil h']))
    all_goals first
      | exact h2k _ _ hc (z.upW _ _ (by omega))
      | (exfalso; omega)
  subst hc
  repeat' (first | simp -implicitDefEqProofs only [syms, symx, seval, c38, q0.lay, ↓cut_pol, agg_pol, valE_pol] | ((with_reducible first | apply forkD | apply forkB | apply forkN | apply forkNP | apply forkNot) <;> intro _) | with_reducible_and_instances refine ixa_at (hl.mono z.inc) ds23 sz39 (by omega) hr (fun p hp => ?_) | with_reducible_and_instances refine fda3 hp fa39_3 (fun p hp => ?_) | with_reducible_and_instances refine ixg hp ix37 (by omega) (by omega) (fun p hp => ?_) | with_reducible_and_instances refine ldt hp ag36 sz36 ?_ | with_reducible_and_instances refine ixs_at sn ds60 sz9 (by omega) hs (fun p hp => ?_) | with_reducible_and_instances refine ld_one hp ag9 ?_ | ((with_reducible_and_instances apply unop_not); (· rfl)) | ((with_reducible refine ⟨z.grw.lay _ _, ?_⟩); (intro _ h' zz x _); (try simp only [lay_lay, List.append_nil] at x); (try replace q0 := q0.over x); (replace z := zz); (clear zz); rw [lay_nil h']))
  refine ok_clears d _ _ _ _ _ _ _ _ hone ((hd.mono z.inc).lay _ _) hn _ (fun hck h' x => ?_) (fun c h' hc x => ?_)
  rotate_left
  · ((first | ((with_reducible refine KOpsX_call ?_ ?_ ?_); (· exact (by (try simp only [lsz]); have := z.size; omega)); (· first | exact x | simpa only [lla] using x)) | skip); replace z := z.overW x (by (try simp only [lsz]); omega); (try replace q0 := q0.over x); rw [lay_nil h'])
    repeat' (first | simp -implicitDefEqProofs only [syms, symx, seval, c38] | ((with_reducible first | apply forkD | apply forkB | apply forkN | apply forkNP | apply forkNot) <;> intro _) | with_reducible_and_instances refine ixa_at (hl.mono z.inc) ds23 sz39 (by omega) hr (fun p hp => ?_) | with_reducible_and_instances refine fda3 hp fa39_3 (fun p hp => ?_) | with_reducible_and_instances refine ixg hp ix37 (by omega) (by omega) (fun p hp => ?_) | with_reducible_and_instances refine ldt hp ag36 sz36 ?_ | with_reducible_and_instances refine ixs_at sn ds60 sz9 (by omega) hs (fun p hp => ?_) | with_reducible_and_instances refine ld_one hp ag9 ?_ | ((with_reducible_and_instances apply unop_not); (· rfl)) | ((with_reducible refine ⟨z.grw.lay _ _, ?_⟩); (intro _ h' zz x _); (try simp only [lay_lay, List.append_nil] at x); (try replace q0 := q0.over x); (replace z := zz); (clear zz); rw [lay_nil h']))
    all_goals first
      | exact h2k _ _ hc (z.upW _ _ (by omega))
      | (exfalso; omega)
  ((first | ((with_reducible refine KOpsX_call ?_ ?_ ?_); (· exact (by (try simp only [lsz]); have := z.size; omega)); (· first | exact x | simpa only [lla] using x)) | skip); replace z := z.overW x (by (try simp only [lsz]); omega); (try replace q0 := q0.over x); rw [lay_nil h'])
  replace h1k := h1k hck
  repeat' (first | simp -implicitDefEqProofs only [syms, symx, seval, c38, q0.lay, pol3, pol4, pol5, pol6, hv5, hv6, hl5, hl6] | ((with_reducible first | apply forkD | apply forkB | apply forkN | apply forkNP | apply forkNot) <;> intro _) | with_reducible_and_instances refine ixa_at (hl.mono z.inc) ds23 sz39 (by omega) hr (fun p hp => ?_) | with_reducible_and_instances refine fda3 hp fa39_3 (fun p hp => ?_) | with_reducible_and_instances refine ixg hp ix37 (by omega) (by omega) (fun p hp => ?_) | with_reducible_and_instances refine ldt hp ag36 sz36 ?_ | with_reducible_and_instances refine ixs_at sn ds60 sz9 (by omega) hs (fun p hp => ?_) | with_reducible_and_instances refine ld_one hp ag9 ?_ | ((with_reducible_and_instances apply unop_not); (· rfl)) | ((with_reducible refine ⟨z.grw.lay _ _, ?_⟩); (intro _ h' zz x _); (try simp only [lay_lay, List.append_nil] at x); (try replace q0 := q0.over x); (replace z := zz); (clear zz); rw [lay_nil h']))
  iterate 7 (· exact h2k _ _ (by decide) (z.upW _ _ (by omega)))
  have e5 : d.rules.length ≤ 64 := by omega
  have e6 : d.grants.length ≤ 64 := by omega
  obtain ⟨I1, hI1⟩ : ∃ I : Nat → Env → Heap → Prop, I = (fun n e h' => ∃ (i : Nat) (h1 : Heap), h' = h1.lay [] h1.low ∧ Ext h h1 ∧ (n = d.rules.length - i ∧ i ≤ d.rules.length ∧ Holds h1 A0 (.row (polCells p0 p1 p2 p5 p6 q b) 66 false)) ∧ ∃ J : Nat → Value, e = (J 0 :: .pointer (some ⟨A0, 0, none⟩) :: jr J 2 2 (.int .i64 i :: jr J 5 129 ([])))) := ⟨_, rfl⟩
  refine W_loopN I1 _ (by rw [hI1]; exact ⟨0, _, rfl, z, ⟨rfl, by omega, q0⟩, junk (by kernel_rfl)⟩) ?_
  intro n e h' hin
  rw [hI1] at hin
  obtain ⟨i, h1', rfl, z, hinv, J, rfl⟩ := hin
  clear q0
  obtain ⟨rfl, hi, q0⟩ := hinv
  have hw : IntKind.i64.wrap ((i : Int) + 1) = ((i + 1 : Nat) : Int) := by rw [wrap_i64 (by omega) (by omega)]; omega
  simp -implicitDefEqProofs only [syms, symx, seval, c38, q0.lay, pol5, hv5, hl5]
  refine forkD (fun hlt => ?_) (fun hlt => ?_)
  · obtain ⟨r, hr, hr'⟩ := amElem (l := d.rules) (i := i) (by omega)
    repeat' (first | simp -implicitDefEqProofs only [syms, symx, seval, c38, q0.lay, ↓cut_pol, agg_pol, valE_pol, pol5, hv5] | with_reducible refine drawN (by simp only [c38]) (z.upW _ _ (by omega)) ?_ | ((with_reducible first | apply forkD | apply forkB | apply forkN | apply forkNP | apply forkNot) <;> intro _) | with_reducible_and_instances refine ixc_at (hd.s5.mono z.inc) ds63 sz124 (by omega) hr (fun p bv hb hp => ?_) | with_reducible_and_instances refine fdc0 hp fa124_0 (fun qq hq => ?_) | with_reducible_and_instances refine lda hq ag39 sz39 ?_ | with_reducible_and_instances refine ixc_at (hd.s5.mono z.inc) ds63 sz124 (by omega) hr (fun p bv hb hp => ?_) | with_reducible_and_instances refine fdc1 hp fa124_1 (fun qq hq => ?_) | with_reducible_and_instances refine ld_one hq ag23 ?_ | ((with_reducible_and_instances apply unop_not); (· rfl)) | ((with_reducible refine ⟨z.grw.lay _ _, ?_⟩); (intro _ h' zz x _); (try simp only [lay_lay, List.append_nil] at x); (try replace q0 := q0.over x); (replace z := zz); (clear zz); rw [lay_nil h']))
    refine ok_clause12 d r.head r.body bv _ _ _ _ _ _ _ _ hone ((hd.mono z.inc).lay _ _) (hb.lay _ _) _ (fun hvh hvb hlb h' x => ?_) (fun c h' hc x => ?_)
    rotate_left
    · ((first | ((with_reducible refine KOpsX_call ?_ ?_ ?_); (· exact (by (try simp only [lsz]); have := z.size; omega)); (· first | exact x | simpa only [lla] using x)) | skip); replace z := z.overW x (by (try simp only [lsz]); omega); (try replace q0 := q0.over x); rw [lay_nil h'])
      repeat' (first | simp -implicitDefEqProofs only [syms, symx, seval, c38] | with_reducible refine drawN (by simp only [c38]) (z.upW _ _ (by omega)) ?_ | ((with_reducible first | apply forkD | apply forkB | apply forkN | apply forkNP | apply forkNot) <;> intro _) | with_reducible_and_instances refine ixc_at (hd.s5.mono z.inc) ds63 sz124 (by omega) hr (fun p bv hb hp => ?_) | with_reducible_and_instances refine fdc0 hp fa124_0 (fun qq hq => ?_) | with_reducible_and_instances refine lda hq ag39 sz39 ?_ | with_reducible_and_instances refine ixc_at (hd.s5.mono z.inc) ds63 sz124 (by omega) hr (fun p bv hb hp => ?_) | with_reducible_and_instances refine fdc1 hp fa124_1 (fun qq hq => ?_) | with_reducible_and_instances refine ld_one hq ag23 ?_ | ((with_reducible_and_instances apply unop_not); (· rfl)) | ((with_reducible refine ⟨z.grw.lay _ _, ?_⟩); (intro _ h' zz x _); (try simp only [lay_lay, List.append_nil] at x); (try replace q0 := q0.over x); (replace z := zz); (clear zz); rw [lay_nil h']))
      all_goals first
        | exact h2k _ _ hc (z.upW _ _ (by omega))
        | (exfalso; omega)
    ((first | ((with_reducible refine KOpsX_call ?_ ?_ ?_); (· exact (by (try simp only [lsz]); have := z.size; omega)); (· first | exact x | simpa only [lla] using x)) | skip); replace z := z.overW x (by (try simp only [lsz]); omega); (try replace q0 := q0.over x); rw [lay_nil h'])
    clear hb
    repeat' (first | simp -implicitDefEqProofs only [syms, symx, seval, c38, q0.lay, pol5, hv5] | with_reducible refine drawN (by simp only [c38]) (z.upW _ _ (by omega)) ?_ | ((with_reducible first | apply forkD | apply forkB | apply forkN | apply forkNP | apply forkNot) <;> intro _) | with_reducible_and_instances refine ixc_at (hd.s5.mono z.inc) ds63 sz124 (by omega) hr (fun p bv hb hp => ?_) | with_reducible_and_instances refine fdc0 hp fa124_0 (fun qq hq => ?_) | with_reducible_and_instances refine lda hq ag39 sz39 ?_ | with_reducible_and_instances refine ixc_at (hd.s5.mono z.inc) ds63 sz124 (by omega) hr (fun p bv hb hp => ?_) | with_reducible_and_instances refine fdc1 hp fa124_1 (fun qq hq => ?_) | with_reducible_and_instances refine ld_one hq ag23 ?_ | ((with_reducible_and_instances apply unop_not); (· rfl)) | ((with_reducible refine ⟨z.grw.lay _ _, ?_⟩); (intro _ h' zz x _); (try simp only [lay_lay, List.append_nil] at x); (try replace q0 := q0.over x); (replace z := zz); (clear zz); rw [lay_nil h']))
    refine ok_ranged r.head r.body bv _ (hb.lay _ _) hlb hvb _ (fun bb h' x => ?_)
    ((first | ((with_reducible refine KOpsX_call ?_ ?_ ?_); (· exact (by (try simp only [lsz]); have := z.size; omega)); (· first | exact x | simpa only [lla] using x)) | skip); replace z := z.overW x (by (try simp only [lsz]); omega); (try replace q0 := q0.over x); rw [lay_nil h'])
    cases bb
    · repeat' (first | simp -implicitDefEqProofs only [syms, symx, seval, c38, Bool.not_false] | with_reducible refine drawN (by simp only [c38]) (z.upW _ _ (by omega)) ?_ | ((with_reducible first | apply forkD | apply forkB | apply forkN | apply forkNP | apply forkNot) <;> intro _) | with_reducible_and_instances refine ixc_at (hd.s5.mono z.inc) ds63 sz124 (by omega) hr (fun p bv hb hp => ?_) | with_reducible_and_instances refine fdc0 hp fa124_0 (fun qq hq => ?_) | with_reducible_and_instances refine lda hq ag39 sz39 ?_ | with_reducible_and_instances refine ixc_at (hd.s5.mono z.inc) ds63 sz124 (by omega) hr (fun p bv hb hp => ?_) | with_reducible_and_instances refine fdc1 hp fa124_1 (fun qq hq => ?_) | with_reducible_and_instances refine ld_one hq ag23 ?_ | ((with_reducible_and_instances apply unop_not); (· rfl)) | ((with_reducible refine ⟨z.grw.lay _ _, ?_⟩); (intro _ h' zz x _); (try simp only [lay_lay, List.append_nil] at x); (try replace q0 := q0.over x); (replace z := zz); (clear zz); rw [lay_nil h']))
      exact h2k _ _ (by decide) (z.upW _ _ (by omega))
    · repeat' (first | simp -implicitDefEqProofs only [syms, symx, seval, c38, Bool.not_true] | with_reducible refine drawN (by simp only [c38]) (z.upW _ _ (by omega)) ?_ | ((with_reducible first | apply forkD | apply forkB | apply forkN | apply forkNP | apply forkNot) <;> intro _) | with_reducible_and_instances refine ixc_at (hd.s5.mono z.inc) ds63 sz124 (by omega) hr (fun p bv hb hp => ?_) | with_reducible_and_instances refine fdc0 hp fa124_0 (fun qq hq => ?_) | with_reducible_and_instances refine lda hq ag39 sz39 ?_ | with_reducible_and_instances refine ixc_at (hd.s5.mono z.inc) ds63 sz124 (by omega) hr (fun p bv hb hp => ?_) | with_reducible_and_instances refine fdc1 hp fa124_1 (fun qq hq => ?_) | with_reducible_and_instances refine ld_one hq ag23 ?_ | ((with_reducible_and_instances apply unop_not); (· rfl)) | ((with_reducible refine ⟨z.grw.lay _ _, ?_⟩); (intro _ h' zz x _); (try simp only [lay_lay, List.append_nil] at x); (try replace q0 := q0.over x); (replace z := zz); (clear zz); rw [lay_nil h']))
      rw [hw]
      (rw [hI1]; with_reducible refine loopN_normal (m := _) ?_ ⟨i + 1, _, rfl, z, ⟨rfl, by omega, q0⟩, junk (by kernel_rfl)⟩; omega)
  clear hi hlt hw
  simp -implicitDefEqProofs only [syms, symx, seval, c38]
  obtain ⟨I2, hI2⟩ : ∃ I : Nat → Env → Heap → Prop, I = (fun n e h' => ∃ (i : Nat) (h1 : Heap), h' = h1.lay [] h1.low ∧ Ext h h1 ∧ (n = d.grants.length - i ∧ i ≤ d.grants.length ∧ Holds h1 A0 (.row (polCells p0 p1 p2 p5 p6 q b) 66 false)) ∧ ∃ J : Nat → Value, e = (J 0 :: .pointer (some ⟨A0, 0, none⟩) :: jr J 2 3 (.int .i64 i :: jr J 6 128 ([])))) := ⟨_, rfl⟩
  refine W_loopN I2 _ (by rw [hI2]; exact ⟨0, _, rfl, z, ⟨rfl, by omega, q0⟩, junk (by kernel_rfl)⟩) ?_
  intro n e h' hin
  rw [hI2] at hin
  obtain ⟨i, h1', rfl, z, hinv, J, rfl⟩ := hin
  clear q0
  obtain ⟨rfl, hi, q0⟩ := hinv
  have hw : IntKind.i64.wrap ((i : Int) + 1) = ((i + 1 : Nat) : Int) := by rw [wrap_i64 (by omega) (by omega)]; omega
  simp -implicitDefEqProofs only [syms, symx, seval, c38, q0.lay, pol6, hv6, hl6]
  refine forkD (fun hlt => ?_) (fun hlt => ?_)
  rotate_left
  · repeat' (first | simp -implicitDefEqProofs only [syms, symx, seval, c38] | ((with_reducible first | apply forkD | apply forkB | apply forkN | apply forkNP | apply forkNot) <;> intro _) | with_reducible_and_instances refine ixc_at (hd.s5.mono z.inc) ds63 sz124 (by omega) hr (fun p bv hb hp => ?_) | with_reducible_and_instances refine fdc0 hp fa124_0 (fun qq hq => ?_) | with_reducible_and_instances refine lda hq ag39 sz39 ?_ | with_reducible_and_instances refine ixc_at (hd.s5.mono z.inc) ds63 sz124 (by omega) hr (fun p bv hb hp => ?_) | with_reducible_and_instances refine fdc1 hp fa124_1 (fun qq hq => ?_) | with_reducible_and_instances refine ld_one hq ag23 ?_ | ((with_reducible_and_instances apply unop_not); (· rfl)) | ((with_reducible refine ⟨z.grw.lay _ _, ?_⟩); (intro _ h' zz x _); (try simp only [lay_lay, List.append_nil] at x); (try replace q0 := q0.over x); (replace z := zz); (clear zz); rw [lay_nil h']))
    exact h1k _ (z.upW _ _ (by omega))
  obtain ⟨r, hr, hr'⟩ := amElem (l := d.grants) (i := i) (by omega)
  repeat' (first | simp -implicitDefEqProofs only [syms, symx, seval, c38, q0.lay, ↓cut_pol, agg_pol, valE_pol, pol6, hv6, lay_set, storeO_row, List.all_cons, List.all_nil, Am.one, Bool.and_true, Bool.true_and, Bool.and_self, List.set_cons_zero, List.set_cons_succ, st4, st3, st9, st36, st39, st47, st41, st192, stg126] | ((with_reducible first | apply forkD | apply forkB | apply forkN | apply forkNP | apply forkNot) <;> intro _) | with_reducible_and_instances refine ixG_at (hd.s6.mono z.inc) ds64 sz126 (by omega) hr (fun p bv hb hp => ?_) | with_reducible_and_instances refine ldG hp ag126 sz126 ?_ | ((with_reducible_and_instances apply unop_not); (· rfl)) | ((with_reducible refine ⟨z.grw.lay _ _, ?_⟩); (intro _ h' zz x _); (try simp only [lay_lay, List.append_nil] at x); (try replace q0 := q0.over x); (replace z := zz); (clear zz); rw [lay_nil h']))
  have hob : (r.head.cells ++ [bv]).all Am.one = true := by have := hb.one; simp only [AtomD.cells, List.all_append, List.all_cons, List.all_nil, this]; rfl
  have hlg : (r.head.cells ++ [bv]).length = 12 := rfl
  have hbv := vSelf bv
  have hg0 : (Value.string r.to :: (r.head.cells ++ [bv]))[0]? = some (.string r.to) := rfl
  have hg1 : (Value.string r.to :: (r.head.cells ++ [bv]))[1]? = some (.string r.head.says) := rfl
  have hg12 : (Value.string r.to :: (r.head.cells ++ [bv]))[12]? = some bv := rfl
  have hgc : cut (Value.string r.to :: (r.head.cells ++ [bv])) 1 11 = some r.head.cells := rfl
  rw [if_pos hlg, if_pos (by rw [hlg, hob]; rfl), show (Value.string r.to :: (r.head.cells ++ bv :: List.drop (r.head.cells ++ [bv]).length [Value.string ⟨#[]⟩, Value.string ⟨#[]⟩, Value.int IntKind.i64 0, Value.bool false, Value.string ⟨#[]⟩, Value.bool false, Value.string ⟨#[]⟩, Value.bool false, Value.string ⟨#[]⟩, Value.bool false, Value.string ⟨#[]⟩, Value.slice none 0 0])) = Value.string r.to :: (r.head.cells ++ [bv]) from rfl]
  repeat' (first | simp -implicitDefEqProofs only [syms, symx, seval, c38, q0.lay, ↓cut_pol, agg_pol, valE_pol] | ((with_reducible first | apply forkD | apply forkB | apply forkN | apply forkNP | apply forkNot) <;> intro _) | with_reducible_and_instances refine ixG_at (hd.s6.mono z.inc) ds64 sz126 (by omega) hr (fun p bv hb hp => ?_) | with_reducible_and_instances refine ldG hp ag126 sz126 ?_ | ((with_reducible_and_instances apply unop_not); (· rfl)) | ((with_reducible refine ⟨z.grw.lay _ _, ?_⟩); (intro _ h' zz x _); (try simp only [lay_lay, List.append_nil] at x); (try replace q0 := q0.over x); (replace z := zz); (clear zz); rw [lay_nil h']))
  refine ok_prin d.principals r.to _ _ _ _ _ _ _ _ ((hd.s0.mono z.inc).lay _ _) _ (fun h' x => ?_)
  have g0 := Holds.top (i := 0) x rfl
  ((first | ((with_reducible refine KOpsX_call ?_ ?_ ?_); (· exact (by (try simp only [lsz]); have := z.size; omega)); (· first | exact x | simpa only [lla] using x)) | skip); replace z := z.overW x (by (try simp only [lsz]); omega); (try replace q0 := q0.over x); (try replace g0 := g0.over x); (try replace hb := hb.over x); rw [lay_nil h'])
  obtain ⟨A1, hA1⟩ : ∃ A1, A1 = h1'.size + 0 := ⟨_, rfl⟩
  rw [← hA1] at g0
  rw [← hA1]
  cases hh : hasS d.principals r.to
  · repeat' (first | simp -implicitDefEqProofs only [syms, symx, seval, c38, Bool.not_false] | ((with_reducible first | apply forkD | apply forkB | apply forkN | apply forkNP | apply forkNot) <;> intro _) | with_reducible_and_instances refine ixG_at (hd.s6.mono z.inc) ds64 sz126 (by omega) hr (fun p bv hb hp => ?_) | with_reducible_and_instances refine ldG hp ag126 sz126 ?_ | ((with_reducible_and_instances apply unop_not); (· rfl)) | ((with_reducible refine ⟨z.grw.lay _ _, ?_⟩); (intro _ h' zz x _); (try simp only [lay_lay, List.append_nil] at x); (try replace q0 := q0.over x); (try replace g0 := g0.over x); (try replace hb := hb.over x); (replace z := zz); (clear zz); rw [lay_nil h']))
    exact h2k _ _ (by decide) (z.upW _ _ (by omega))
  repeat' (first | simp -implicitDefEqProofs only [syms, symx, seval, c38, Bool.not_true, g0.lay, hg0, hg1, q0.lay, ↓cut_pol, agg_pol, valE_pol, ↓hgc, agg_atom, valE_atom, hg12, hbv] | ((with_reducible first | apply forkD | apply forkB | apply forkN | apply forkNP | apply forkNot) <;> intro _) | with_reducible_and_instances refine ixG_at (hd.s6.mono z.inc) ds64 sz126 (by omega) hr (fun p bv hb hp => ?_) | with_reducible_and_instances refine ldG hp ag126 sz126 ?_ | ((with_reducible_and_instances apply unop_not); (· rfl)) | ((with_reducible refine ⟨z.grw.lay _ _, ?_⟩); (intro _ h' zz x _); (try simp only [lay_lay, List.append_nil] at x); (try replace q0 := q0.over x); (try replace g0 := g0.over x); (try replace hb := hb.over x); (replace z := zz); (clear zz); rw [lay_nil h']))
  · exact h2k _ _ (by decide) (z.upW _ _ (by omega))
  refine ok_clause12 d r.head r.body bv _ _ _ _ _ _ _ _ hone ((hd.mono z.inc).lay _ _) (hb.lay _ _) _ (fun hvh hvb hlb h' x => ?_) (fun c h' hc x => ?_)
  rotate_left
  · ((first | ((with_reducible refine KOpsX_call ?_ ?_ ?_); (· exact (by (try simp only [lsz]); have := z.size; omega)); (· first | exact x | simpa only [lla] using x)) | skip); replace z := z.overW x (by (try simp only [lsz]); omega); (try replace q0 := q0.over x); (try replace g0 := g0.over x); (try replace hb := hb.over x); rw [lay_nil h'])
    repeat' (first | simp -implicitDefEqProofs only [syms, symx, seval, c38] | ((with_reducible first | apply forkD | apply forkB | apply forkN | apply forkNP | apply forkNot) <;> intro _) | with_reducible_and_instances refine ixG_at (hd.s6.mono z.inc) ds64 sz126 (by omega) hr (fun p bv hb hp => ?_) | with_reducible_and_instances refine ldG hp ag126 sz126 ?_ | ((with_reducible_and_instances apply unop_not); (· rfl)) | ((with_reducible refine ⟨z.grw.lay _ _, ?_⟩); (intro _ h' zz x _); (try simp only [lay_lay, List.append_nil] at x); (try replace q0 := q0.over x); (try replace g0 := g0.over x); (try replace hb := hb.over x); (replace z := zz); (clear zz); rw [lay_nil h']))
    all_goals first
      | exact h2k _ _ hc (z.upW _ _ (by omega))
      | (exfalso; omega)
  ((first | ((with_reducible refine KOpsX_call ?_ ?_ ?_); (· exact (by (try simp only [lsz]); have := z.size; omega)); (· first | exact x | simpa only [lla] using x)) | skip); replace z := z.overW x (by (try simp only [lsz]); omega); (try replace q0 := q0.over x); (try replace g0 := g0.over x); (try replace hb := hb.over x); rw [lay_nil h'])
  repeat' (first | simp -implicitDefEqProofs only [syms, symx, seval, c38] | ((with_reducible first | apply forkD | apply forkB | apply forkN | apply forkNP | apply forkNot) <;> intro _) | with_reducible_and_instances refine ixG_at (hd.s6.mono z.inc) ds64 sz126 (by omega) hr (fun p bv hb hp => ?_) | with_reducible_and_instances refine ldG hp ag126 sz126 ?_ | ((with_reducible_and_instances apply unop_not); (· rfl)) | ((with_reducible refine ⟨z.grw.lay _ _, ?_⟩); (intro _ h' zz x _); (try simp only [lay_lay, List.append_nil] at x); (try replace q0 := q0.over x); (try replace g0 := g0.over x); (try replace hb := hb.over x); (replace z := zz); (clear zz); rw [lay_nil h']))
  rw [hw]
  (rw [hI2]; with_reducible refine loopN_normal (m := _) ?_ ⟨i + 1, _, rfl, z, ⟨rfl, by omega, q0⟩, junk (by kernel_rfl)⟩; omega)
end Go.Proofs.Ytompindebndddaa
