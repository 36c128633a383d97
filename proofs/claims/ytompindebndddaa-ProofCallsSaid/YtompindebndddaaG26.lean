/- What the arguments' cells are: steps. Written out by fill2.py. No condition. -/
import Derived.Test.YtompindebndddaaG12
import Derived.Test.YtompindebndddaaG25
import Derived.Test.YtompindebndddaaGSym2
namespace Go.Proofs.Ytompindebndddaa
open Go.Am
set_option linter.unusedSimpArgs false
set_option linter.unusedVariables false
set_option maxRecDepth 100000
theorem cells_iN : Try.prog.cellsOf 3 = 1 := by kernel_rfl
theorem cells_stN : Try.prog.cellsOf 90 = 13 := by kernel_rfl
theorem shp_ints {h : Heap} {n : Nat} {v : Value} (hs : Shp Try.prog h (n + 2) 32 [v]) : ∃ l, Sl Rep.int h v l :=
  shp_sl Try.underlying32 cells_iN (fun cs hc => by obtain ⟨k, hk, _⟩ := shp_int hc; exact ⟨k, hk⟩) hs
theorem shp_step {h : Heap} {n : Nat} {cs : List Value} (hs : Shp Try.prog h (n + 6) 90 cs) : ∃ x, Rep.step.R h cs x := by
  unfold Shp at hs
  rw [Try.underlying90] at hs
  obtain ⟨hl, hf⟩ := hs
  rw [cells_stN] at hl
  have h0 : Shp Try.prog h (n + 5) 39 ((cs.drop 0).take 11) := hf 0 _ rfl
  have h1 : Shp Try.prog h (n + 5) 3 ((cs.drop 11).take 1) := hf 1 _ rfl
  have h2 : Shp Try.prog h (n + 5) 32 ((cs.drop 12).take 1) := hf 2 _ rfl
  obtain ⟨a, ha⟩ := shp_atom (n := n + 1) h0
  obtain ⟨k, hk, _⟩ := shp_int h1
  obtain ⟨v, hv⟩ : ∃ v, (cs.drop 12).take 1 = [v] := by
    match hc : (cs.drop 12).take 1, (show ((cs.drop 12).take 1).length = 1 by simp; omega) with
    | [v], _ => exact ⟨v, rfl⟩
  rw [hv] at h2
  obtain ⟨l, hl2⟩ := shp_ints h2
  refine ⟨⟨a, k, l⟩, v, ?_, hl2⟩
  have e1 : cs = cs.take 11 ++ cs.drop 11 := (List.take_append_drop 11 cs).symm
  have e2 : cs.drop 11 = (cs.drop 11).take 1 ++ (cs.drop 11).drop 1 := (List.take_append_drop 1 _).symm
  rw [List.drop_drop] at e2
  rw [List.take_of_length_le (by simp; omega)] at hv
  rw [List.drop_zero] at ha
  rw [hk, show 11 + 1 = 12 from rfl, hv] at e2
  rw [e1, ha, e2]
  rfl
theorem arg_steps {h : Heap} {n : Nat} {v : Value} (hs : ArgShp Try.prog h (n + 7) 84 v) : ∃ l, Sl Rep.step h v l := by
  unfold ArgShp at hs
  rw [Try.underlying84] at hs
  exact shp_sl (n := n + 6) Try.underlying84 cells_stN (fun cs hc => shp_step hc) hs
end Go.Proofs.Ytompindebndddaa
namespace Go.Am
variable {T : Tab} {fn : Func} {K : Value → Heap → Prop} {e : Env} {h : Heap}
theorem fin_no (hr : fn.results = #[]) : finE T fn K .ret e h = K undef h := by
  simp [finE, resultsA, hr, undef]
theorem fin_no2 (hr : fn.results = #[]) : finE T fn K .normal e h = K undef h := by
  simp [finE, resultsA, hr, undef]
end Go.Am
