/- Walks: bindings: may they be Written out by fill2.py. No condition. -/
import Derived.Test.YtemapihoobmonaaGreatDoorG33
namespace Go.Proofs.YtemapihoobmonaaGreatDoor
open Go.Am
set_option linter.unusedSimpArgs false
set_option linter.unusedVariables false
set_option maxRecDepth 100000
set_option maxHeartbeats 0
theorem zpL {I : Nat → Env → Heap → Prop} {m : Nat} {Q : Ex → Env → Heap → Prop} {x : Ex} {e : Env} {h0 h1 : Heap} {bs : List Blk} {w : Nat} (z : Ext h0 (h1.lay bs w)) (hk : ∀ H, Ext h0 H → (∀ A b, Holds h1 A b → Holds H A b) → Inc h1 H → zql I m Q x e (H.lay [] H.low)) : zql I m Q x e (h1.lay bs w) := by
  have := hk _ z (fun A b q => q.on bs w) (Inc.lay _ _ _)
  rwa [← zab] at this
theorem zw5 (a : AtomD) (k : Nat) (hk : k < 4) : cut a.cells (3 + k * 2) 2 = some (a.arg k).cells := by
  have : k = 0 ∨ k = 1 ∨ k = 2 ∨ k = 3 := by omega
  rcases this with rfl | rfl | rfl | rfl <;> rfl
end Go.Proofs.YtemapihoobmonaaGreatDoor
