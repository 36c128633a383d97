/- Walks: what is gone through, on; lists of one's own. Written out by fill2.py. No condition. -/
import Derived.Test.YtompindebndddaaG42
import Derived.Test.YtompindebndddaaGInt
namespace Go.Proofs.Ytompindebndddaa
open Go.Am
set_option linter.unusedSimpArgs false
set_option linter.unusedVariables false
set_option maxRecDepth 100000
set_option maxHeartbeats 0
theorem light_one {a : AtomD} (h : a.light = true) : ∀ x ∈ [a], x.light = true := by simpa using h
theorem ok_own (l : List AtomD) (v : Value) (h : Heap) (hl : Sl Rep.atom h v l) (hn : l.length ≤ 1000000) (K : Value → Heap → Prop) (hk : ∀ w A h', Ext h h' → Ow Rep.atom h h' 39 A w l → (A < h.size → False) → K w h') : Ok Try.prog tab ov 27 [v] h K := by
  rw [lay_nil h]
  refine Ok.into rfl tab_fn27 (bodyF N27) rfl (m := 5) rfl ?_
  simp -implicitDefEqProofs only [syms, symx, seval, c27, w_append, sty23]
  obtain ⟨news, hs, hsr⟩ := src_sl (A := h.size + 1) (r := Rep.atom) (by decide) (hl.lay [.row [] 39 false] h.low) (fun cs y hr => hr)
  have f : Ow Rep.atom h (h.lay [.row [] 39 false] h.low) 39 (h.size + 1) (.slice (some ⟨h.size + 0, 0, none⟩) 0 0) [] :=
    .inl ⟨by omega, rfl, .inr ⟨h.size + 0, 0, rfl, by omega, by rw [lay_size]; simp, [], 39, false, by rw [lay_get]; rfl⟩⟩
  obtain ⟨w, h', A', e1, e2, e3, e4, e5⟩ := app_ow (t := 23) ds23 tab_info39 rfl (by decide) (by rw [lay_size]; omega) f hs hsr (by simp only [List.length_nil]; omega) (by simp only [List.length_nil]; omega)
  rw [e1]
  simp -implicitDefEqProofs only [syms, symx, seval, c27]
  exact hk _ _ _ ((Ext.refl h).stepW e3 (by omega) (by omega)) e2 (by omega)
end Go.Proofs.Ytompindebndddaa
