/- What an atom's cells are. No condition. -/
import Derived.Test.YtpnnbjakbplgeaaZW6
import Derived.Test.YtpnnbjakbplgeaaGLaw
namespace Go.Proofs.Ytpnnbjakbplgeaa
open Go.Am
theorem len_eleven {α : Type} {l : List α} (h : l.length = 11) : ∃ a0 a1 a2 a3 a4 a5 a6 a7 a8 a9 a10, l = [a0, a1, a2, a3, a4, a5, a6, a7, a8, a9, a10] := by
  match l, h with
  | [a0, a1, a2, a3, a4, a5, a6, a7, a8, a9, a10], _ => exact ⟨_, _, _, _, _, _, _, _, _, _, _, rfl⟩
theorem cellsOf26 : Try.prog.cellsOf 26 = 11 := by kernel_rfl
theorem cellsOf24 : Try.prog.cellsOf 24 = 8 := by kernel_rfl
theorem cellsOf23 : Try.prog.cellsOf 23 = 2 := by kernel_rfl
theorem cellsOf9 : Try.prog.cellsOf 9 = 1 := by kernel_rfl
theorem cellsOf4 : Try.prog.cellsOf 4 = 1 := by kernel_rfl
theorem cellsOf3 : Try.prog.cellsOf 3 = 1 := by kernel_rfl
theorem shp_string {h : Heap} {n : Nat} {cs : List Value} (hs : Shp Try.prog h (n + 1) 9 cs) : ∃ s : ByteArray, cs = [.string s] := by
  unfold Shp at hs
  rw [Try.underlying9] at hs
  exact ⟨hs.choose, hs.choose_spec.1⟩
theorem shp_bool {h : Heap} {n : Nat} {cs : List Value} (hs : Shp Try.prog h (n + 1) 4 cs) : ∃ b : Bool, cs = [.bool b] := by
  unfold Shp at hs
  rw [Try.underlying4] at hs
  exact hs
theorem shp_int {h : Heap} {n : Nat} {cs : List Value} (hs : Shp Try.prog h (n + 1) 3 cs) : ∃ b : Int, cs = [.int .i64 b] ∧ (Lit.int .i64 b).wf = true := by
  unfold Shp at hs
  rw [Try.underlying3] at hs
  exact hs
theorem shp_term {h : Heap} {n : Nat} {x y : Value} (hs : Shp Try.prog h (n + 2) 23 [x, y]) : ∃ (b : Bool) (s : ByteArray), x = .bool b ∧ y = .string s := by
  unfold Shp at hs
  rw [Try.underlying23] at hs
  obtain ⟨_, hf⟩ := hs
  have h0 : Shp Try.prog h (n + 1) 4 (([x, y].drop 0).take 1) := hf 0 _ rfl
  have h1 : Shp Try.prog h (n + 1) 9 (([x, y].drop 1).take 1) := hf 1 _ rfl
  obtain ⟨b, hb⟩ := shp_bool h0
  obtain ⟨s, hs⟩ := shp_string h1
  simp at hb hs
  exact ⟨b, s, hb, hs⟩
theorem shp_atom {h : Heap} {n : Nat} {cs : List Value} (hs : Shp Try.prog h (n + 4) 26 cs) : ∃ a : AtomD, cs = atomL a.s a.p a.n a.v0 a.n0 a.v1 a.n1 a.v2 a.n2 a.v3 a.n3 := by
  unfold Shp at hs
  rw [Try.underlying26] at hs
  obtain ⟨hl, hf⟩ := hs
  rw [cellsOf26] at hl
  obtain ⟨a0, a1, a2, a3, a4, a5, a6, a7, a8, a9, a10, rfl⟩ := len_eleven hl
  have h0 : Shp Try.prog h (n + 3) 9 (([a0, a1, a2, a3, a4, a5, a6, a7, a8, a9, a10].drop 0).take 1) := hf 0 _ rfl
  have h1 : Shp Try.prog h (n + 3) 9 (([a0, a1, a2, a3, a4, a5, a6, a7, a8, a9, a10].drop 1).take 1) := hf 1 _ rfl
  have h2 : Shp Try.prog h (n + 3) 3 (([a0, a1, a2, a3, a4, a5, a6, a7, a8, a9, a10].drop 2).take 1) := hf 2 _ rfl
  have h3 : Shp Try.prog h (n + 3) 24 (([a0, a1, a2, a3, a4, a5, a6, a7, a8, a9, a10].drop 3).take 8) := hf 3 _ rfl
  obtain ⟨s, hs⟩ := shp_string h0
  obtain ⟨p, hp⟩ := shp_string h1
  obtain ⟨i, hi, _⟩ := shp_int h2
  unfold Shp at h3
  rw [Try.underlying24] at h3
  obtain ⟨_, hg⟩ := h3
  have g0 := hg 0 (by omega)
  have g1 := hg 1 (by omega)
  have g2 := hg 2 (by omega)
  have g3 := hg 3 (by omega)
  simp only [cellsOf23] at g0 g1 g2 g3
  obtain ⟨b0, s0, e0, e0'⟩ := shp_term g0
  obtain ⟨b1, s1, e1, e1'⟩ := shp_term g1
  obtain ⟨b2, s2, e2, e2'⟩ := shp_term g2
  obtain ⟨b3, s3, e3, e3'⟩ := shp_term g3
  simp at hs hp hi
  subst hs hp hi e0 e0' e1 e1' e2 e2' e3 e3'
  exact ⟨⟨s, p, i, b0, s0, b1, s1, b2, s2, b3, s3⟩, rfl⟩
theorem arg_atom {h : Heap} {n : Nat} {v : Value} (hs : ArgShp Try.prog h (n + 4) 26 v) : ∃ a : AtomD, v = a.val := by
  unfold ArgShp at hs
  rw [Try.underlying26] at hs
  obtain ⟨cs, rfl, hc⟩ := hs
  obtain ⟨a, rfl⟩ := shp_atom hc
  exact ⟨a, rfl⟩
end Go.Proofs.Ytpnnbjakbplgeaa
