/- Slices just laid. No condition. -/
import Derived.Test.YtompindebndddaaG29
namespace Go.Am
set_option linter.unusedVariables false
theorem sl_laid2 {h : Heap} {v u : Value} {a b : List AtomD} {t : TypeId} {ro : Bool} {w : Nat} (ha : Sl Rep.atom h v a) (hb : Sl Rep.atom h u b) : Sl Rep.atoms (h.lay [.row [v, u] t ro] w) (.slice (some ⟨h.size + 0, 0, none⟩) 2 2) [a, b] := by
  refine .inr ⟨h.size + 0, 0, 2, [v, u], t, ro, rfl, (by show 2 ≤ maxLen; decide), .inl ⟨by decide, Nat.le_refl _⟩, by rw [lay_size]; simp, by rw [lay_get]; rfl, fun i x hx => ?_⟩
  match i, hx with
  | 0, hx => cases hx; exact ⟨[v], rfl, v, rfl, ha.lay _ _⟩
  | 1, hx => cases hx; exact ⟨[u], rfl, u, rfl, hb.lay _ _⟩
  | i + 2, hx => simp at hx
theorem cells_one {v : Value} (hv : v.cells.toList = [v]) : v.cells.size = 1 := by rw [← Array.length_toList, hv]; rfl
theorem fill_sl2 {v u z0 z1 : Value} (hv : v.cells.toList = [v]) (hu : u.cells.toList = [u]) : fillA (fun i => some (i * 1, 1)) [z0, z1] [(0, v), (1, u)] = some [v, u] := by
  simp [fillA, hv, hu, cells_one hv, cells_one hu, splice]
end Go.Am
