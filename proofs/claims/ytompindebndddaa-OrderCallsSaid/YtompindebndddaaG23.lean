/- Walks: an atom's terms; is it ground? Written out by fill2.py. No condition. -/
import Derived.Test.YtompindebndddaaG18
import Derived.Test.YtompindebndddaaZK2
import Derived.Test.YtompindebndddaaGList
namespace Go.Proofs.Ytompindebndddaa
open Go.Am
set_option linter.unusedSimpArgs false
set_option linter.unusedVariables false
set_option maxRecDepth 100000
set_option maxHeartbeats 0
theorem sl37 (A o : Nat) (k : Int) (h0 : 0 ≤ k) (h4 : k ≤ 4) : sliceA tab 37 (.pointer (some ⟨A, o, none⟩)) none (some (.int .i64 k)) none = some (.slice (some ⟨A, o, none⟩) k.toNat 4) := by
  have hG : 4 < G := by decide
  simp only [sliceA, ds37, boundsA, bound, if_pos hG, Option.bind_some]
  rw [if_pos ⟨h0, by omega⟩]
  simp [sz36]
theorem ok_args (a : AtomD) (h : Heap) (K : Value → Heap → Prop) (hk : ∀ w h', Ext h h' → Sl Rep.term h' w a.args → K w h') : Ok Try.prog tab ov 136 [a.val] h K := by
  rw [lay_nil h]
  have z := Ext.refl h
  unfold AtomD.val AtomD.cells
  refine Ok.into rfl tab_fn136 body136 rfl (m := 8) rfl ?_
  simp -implicitDefEqProofs only [syms, symx, Nat.reduceAdd, Nat.reduceMul, Int.reduceLT, Int.reduceLE, Int.reduceAdd, Int.reduceSub, Int.reduceToNat, Int.reduceNeg, reduceIte, Nat.reduceGT, Nat.reduceLT, Nat.reduceLeDiff, code136_0, ty136]
  refine max_int rfl rfl ?_
  simp -implicitDefEqProofs only [syms, symx, Nat.reduceAdd, Nat.reduceMul, Int.reduceLT, Int.reduceLE, Int.reduceAdd, Int.reduceSub, Int.reduceToNat, Int.reduceNeg, reduceIte, Nat.reduceGT, Nat.reduceLT, Nat.reduceLeDiff, code136_0, ty136]
  refine min_int rfl rfl ?_
  simp -implicitDefEqProofs only [syms, symx, Nat.reduceAdd, Nat.reduceMul, Int.reduceLT, Int.reduceLE, Int.reduceAdd, Int.reduceSub, Int.reduceToNat, Int.reduceNeg, reduceIte, Nat.reduceGT, Nat.reduceLT, Nat.reduceLeDiff, code136_0, ty136]
  rw [sl37 _ _ _ (by split <;> split <;> omega) (by split <;> split <;> omega)]
  simp -implicitDefEqProofs only [syms, symx, Nat.reduceAdd, Nat.reduceMul, Int.reduceLT, Int.reduceLE, Int.reduceAdd, Int.reduceSub, Int.reduceToNat, Int.reduceNeg, reduceIte, Nat.reduceGT, Nat.reduceLT, Nat.reduceLeDiff, code136_0, ty136]
  have hc : (if 4 < (if a.n < 0 then 0 else a.n) then 4 else (if a.n < 0 then 0 else a.n)).toNat = a.cnt := by
    unfold AtomD.cnt
    split <;> split <;> omega
  rw [hc]
  exact hk _ _ (z.upW _ _ (by omega)) (sl_args (a := a) ⟨by rw [lay_size]; simp, by rw [lay_get]; rfl⟩ rfl)
end Go.Proofs.Ytompindebndddaa
namespace Go.Proofs.Ytompindebndddaa
open Go.Am
set_option linter.unusedSimpArgs false
set_option linter.unusedVariables false
set_option maxRecDepth 100000
set_option maxHeartbeats 0
end Go.Proofs.Ytompindebndddaa
namespace Go.Proofs.Ytompindebndddaa
open Go.Am
set_option linter.unusedSimpArgs false
set_option linter.unusedVariables false
set_option maxRecDepth 100000
set_option maxHeartbeats 0
end Go.Proofs.Ytompindebndddaa
