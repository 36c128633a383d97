/- What the arguments' cells are: policies, names, steps. Written out by fill2.py. No condition. -/
import Derived.Test.YtompindebndddaaG12
import Derived.Test.YtompindebndddaaGView
namespace Go.Proofs.Ytompindebndddaa
open Go.Am
set_option linter.unusedSimpArgs false
set_option linter.unusedVariables false
set_option maxRecDepth 100000
theorem cells_prN : Try.prog.cellsOf 123 = 2 := by kernel_rfl
theorem cells_crN : Try.prog.cellsOf 73 = 2 := by kernel_rfl
theorem cells_ruN : Try.prog.cellsOf 124 = 12 := by kernel_rfl
theorem cells_grN : Try.prog.cellsOf 126 = 13 := by kernel_rfl
theorem cells_polN : Try.prog.cellsOf 66 = 7 := by kernel_rfl
theorem shp_strings {h : Heap} {n : Nat} {v : Value} (hs : Shp Try.prog h (n + 2) 60 [v]) : ∃ l, Sl Rep.str h v l :=
  shp_sl Try.underlying60 cells_strN (fun cs hc => shp_string hc) hs
theorem arg_string {h : Heap} {n : Nat} {v : Value} (hs : ArgShp Try.prog h (n + 1) 9 v) : ∃ s : ByteArray, v = .string s := by
  unfold ArgShp at hs
  rw [Try.underlying9] at hs
  obtain ⟨s, hs⟩ := shp_string hs
  simp only [List.cons.injEq, and_true] at hs
  exact ⟨s, hs⟩
theorem one_cell {cs : List Value} {k : Nat} (h : k < cs.length) : ∃ v, (cs.drop k).take 1 = [v] := by
  rw [List.drop_eq_getElem_cons h]
  exact ⟨_, rfl⟩
theorem shp_pred {h : Heap} {n : Nat} {cs : List Value} (hs : Shp Try.prog h (n + 2) 123 cs) : ∃ x, Rep.pred.R h cs x := by
  unfold Shp at hs
  rw [Try.underlying123] at hs
  obtain ⟨hl, hf⟩ := hs
  rw [cells_prN] at hl
  match cs, hl with
  | [a, b], _ =>
    have h0 : Shp Try.prog h (n + 1) 9 (([a, b].drop 0).take 1) := hf 0 _ rfl
    have h1 : Shp Try.prog h (n + 1) 3 (([a, b].drop 1).take 1) := hf 1 _ rfl
    obtain ⟨s, e0⟩ := shp_string h0
    obtain ⟨i, e1, _⟩ := shp_int h1
    simp at e0 e1
    subst e0 e1
    exact ⟨⟨s, i⟩, rfl⟩
theorem shp_clear {h : Heap} {n : Nat} {cs : List Value} (hs : Shp Try.prog h (n + 3) 73 cs) : ∃ x, Rep.clear.R h cs x := by
  unfold Shp at hs
  rw [Try.underlying73] at hs
  obtain ⟨hl, hf⟩ := hs
  rw [cells_crN] at hl
  match cs, hl with
  | [a, b], _ =>
    have h0 : Shp Try.prog h (n + 2) 9 (([a, b].drop 0).take 1) := hf 0 _ rfl
    have h1 : Shp Try.prog h (n + 2) 60 (([a, b].drop 1).take 1) := hf 1 _ rfl
    obtain ⟨s, e0⟩ := shp_string h0
    obtain ⟨l, e1⟩ := shp_strings h1
    simp at e0
    subst e0
    exact ⟨⟨s, l⟩, _, rfl, e1⟩
theorem shp_rule {h : Heap} {n : Nat} {cs : List Value} (hs : Shp Try.prog h (n + 6) 124 cs) : ∃ x, Rep.clause.R h cs x := by
  unfold Shp at hs
  rw [Try.underlying124] at hs
  obtain ⟨hl, hf⟩ := hs
  rw [cells_ruN] at hl
  have h0 : Shp Try.prog h (n + 5) 39 ((cs.drop 0).take 11) := hf 0 _ rfl
  have h1 : Shp Try.prog h (n + 5) 23 ((cs.drop 11).take 1) := hf 1 _ rfl
  obtain ⟨a, ha⟩ := shp_atom (n := n + 1) h0
  obtain ⟨v, hv⟩ := one_cell (cs := cs) (k := 11) (by omega)
  rw [hv] at h1
  obtain ⟨l, hl2⟩ := shp_atoms h1
  refine ⟨⟨a, l⟩, v, ?_, hl2⟩
  have e1 : cs = cs.take 11 ++ cs.drop 11 := (List.take_append_drop 11 cs).symm
  rw [List.take_of_length_le (by simp; omega)] at hv
  rw [List.drop_zero] at ha
  rw [e1, ha, hv]
theorem shp_grant {h : Heap} {n : Nat} {cs : List Value} (hs : Shp Try.prog h (n + 6) 126 cs) : ∃ x, Rep.grant.R h cs x := by
  unfold Shp at hs
  rw [Try.underlying126] at hs
  obtain ⟨hl, hf⟩ := hs
  rw [cells_grN] at hl
  match cs, hl with
  | c0 :: cs, hl =>
    have hl : cs.length = 12 := by simpa using hl
    have h0 : Shp Try.prog h (n + 5) 9 (((c0 :: cs).drop 0).take 1) := hf 0 _ rfl
    have h1 : Shp Try.prog h (n + 5) 39 ((cs.drop 0).take 11) := hf 1 _ rfl
    have h2 : Shp Try.prog h (n + 5) 23 ((cs.drop 11).take 1) := hf 2 _ rfl
    obtain ⟨s, e0⟩ := shp_string h0
    obtain ⟨a, ha⟩ := shp_atom (n := n + 1) h1
    obtain ⟨v, hv⟩ := one_cell (cs := cs) (k := 11) (by omega)
    rw [hv] at h2
    obtain ⟨l, hl2⟩ := shp_atoms h2
    simp at e0
    subst e0
    refine ⟨⟨s, a, l⟩, v, ?_, hl2⟩
    have e1 : cs = cs.take 11 ++ cs.drop 11 := (List.take_append_drop 11 cs).symm
    rw [List.take_of_length_le (by simp; omega)] at hv
    rw [List.drop_zero] at ha
    rw [e1, ha, hv]
theorem arg_policy {h : Heap} {n : Nat} {v : Value} (hs : ArgShp Try.prog h (n + 8) 66 v) : ∃ d, PolV h v d := by
  unfold ArgShp at hs
  rw [Try.underlying66] at hs
  obtain ⟨cs, rfl, hc⟩ := hs
  unfold Shp at hc
  rw [Try.underlying66] at hc
  obtain ⟨hl, hf⟩ := hc
  rw [cells_polN] at hl
  match cs, hl with
  | [c0, c1, c2, c3, c4, c5, c6], _ =>
    have h0 : Shp Try.prog h (n + 7) 60 (([c0, c1, c2, c3, c4, c5, c6].drop 0).take 1) := hf 0 _ rfl
    have h1 : Shp Try.prog h (n + 7) 61 (([c0, c1, c2, c3, c4, c5, c6].drop 1).take 1) := hf 1 _ rfl
    have h2 : Shp Try.prog h (n + 7) 62 (([c0, c1, c2, c3, c4, c5, c6].drop 2).take 1) := hf 2 _ rfl
    have h3 : Shp Try.prog h (n + 7) 3 (([c0, c1, c2, c3, c4, c5, c6].drop 3).take 1) := hf 3 _ rfl
    have h4 : Shp Try.prog h (n + 7) 3 (([c0, c1, c2, c3, c4, c5, c6].drop 4).take 1) := hf 4 _ rfl
    have h5 : Shp Try.prog h (n + 7) 63 (([c0, c1, c2, c3, c4, c5, c6].drop 5).take 1) := hf 5 _ rfl
    have h6 : Shp Try.prog h (n + 7) 64 (([c0, c1, c2, c3, c4, c5, c6].drop 6).take 1) := hf 6 _ rfl
    obtain ⟨l0, g0⟩ := shp_strings h0
    obtain ⟨l1, g1⟩ := shp_sl (n := n + 6) Try.underlying61 cells_prN (fun cs hc => shp_pred hc) h1
    obtain ⟨l2, g2⟩ := shp_sl (n := n + 6) Try.underlying62 cells_crN (fun cs hc => shp_clear hc) h2
    obtain ⟨i3, e3, _⟩ := shp_int h3
    obtain ⟨i4, e4, _⟩ := shp_int h4
    obtain ⟨l5, g5⟩ := shp_sl (n := n + 6) Try.underlying63 cells_ruN (fun cs hc => shp_rule hc) h5
    obtain ⟨l6, g6⟩ := shp_sl (n := n + 6) Try.underlying64 cells_grN (fun cs hc => shp_grant hc) h6
    simp at e3 e4
    subst e3 e4
    exact ⟨⟨l0, l1, l2, i3, i4, l5, l6⟩, _, _, _, _, _, _, _, rfl, ⟨g0, g1, g2, g5, g6⟩⟩
end Go.Proofs.Ytompindebndddaa
