/- Walks: is a list sorted? A list made sorted Written out by fill2.py. No condition. -/
import Derived.Test.YtemapihoobmonaaDoorG42
import Derived.Test.YtemapihoobmonaaDoorG18
import Derived.Test.YtemapihoobmonaaDoorG15
import Derived.KernelRfl
import Derived.Test.YtemapihoobmonaaDoorG20
namespace Go.Proofs.YtemapihoobmonaaDoor
open Go.Am
set_option linter.unusedVariables false
set_option linter.unusedSimpArgs false
set_option maxRecDepth 100000
set_option maxHeartbeats 0
noncomputable def N10 := nodeF Tryd.f10
noncomputable def x10 := PLift.up (by have c := factsOf N10 Tryd.f10; simp only [codeOf, Tryd.f10, Option.getD_some, factsF, opsF, opsX, ncount, wantG, dstL, quietS, List.append_eq, List.cons_append, List.nil_append, seval] at c; exact nd c <| nd @ix23 <| nd @ld36 <| nd @ln23 <| @fi10)
theorem c10 : type_of% x10.down := x10.down
end Go.Proofs.YtemapihoobmonaaDoor
namespace Go.Proofs.YtemapihoobmonaaDoor
open Go.Am
set_option linter.unusedSimpArgs false
set_option linter.unusedVariables false
set_option maxRecDepth 100000
set_option maxHeartbeats 0
theorem ok_sameAtoms (l m : List AtomD) (v u : Value) (h : Heap) (hl : Sl Rep.atom h v l) (hm : Sl Rep.atom h u m) (hs : l.length ≤ 1000) (hs2 : m.length ≤ 1000) (K : Value → Heap → Prop)
    (hk : ∀ h', Ext h h' → K (.bool (decide (l = m))) h') : Ok Tryd.prog tab ov 10 [v, u] h K := by
  rw [lay_nil h]
  have z := Ext.refl h
  have hln := fun (hh : Heap) => hl.lenA ds23 hh
  have hlm := fun (hh : Heap) => hm.lenA ds23 hh
  refine Ok.into rfl tab_fn10 (bodyF N10) rfl (m := 24) rfl ?_
  simp -implicitDefEqProofs only [syms, symx, seval, c10, hln, hlm]
  refine forkN (fun hne => ?_) (fun heq => ?_)
  · rw [decide_eq_false (show ¬ l = m from fun e => by subst e; exact hne rfl)] at hk
    repeat' ( simp -implicitDefEqProofs only [syms, symx, seval, c10])
    exact hk _ (z.upW _ _ (by omega))
  have hlen : l.length = m.length := by omega
  repeat' ( simp -implicitDefEqProofs only [syms, symx, seval, c10])
  obtain ⟨I1, hI1⟩ : ∃ I : Nat → Env → Heap → Prop, I = (fun n e h' => ∃ (i : Nat) (h1 : Heap), h' = h1.lay [] h1.low ∧ Ext h h1 ∧ (n = l.length - i ∧ i ≤ l.length ∧ l.take i = m.take i) ∧ ∃ J : Nat → Value, e = (v :: u :: jr J 2 3 (.int .i64 i :: jr J 6 20 ([])))) := ⟨_, rfl⟩
  refine W_loopN I1 _ (by rw [hI1]; exact ⟨0, _, rfl, z, ⟨rfl, by omega, rfl⟩, junk (by kernel_rfl)⟩) ?_
  intro n e h' hin
  rw [hI1] at hin
  obtain ⟨i, h1', rfl, z, hinv, J, rfl⟩ := hin
  obtain ⟨rfl, hi, htk⟩ := hinv
  have hw : IntKind.i64.wrap ((i : Int) + 1) = ((i + 1 : Nat) : Int) := by rw [wrap_i64 (by omega) (by omega)]; omega
  simp -implicitDefEqProofs only [syms, symx, seval, c10, hln]
  refine forkD (fun hlt => ?_) (fun hlt => ?_)
  rotate_left
  · rw [List.take_of_length_le (by omega), List.take_of_length_le (by omega)] at htk
    rw [decide_eq_true htk] at hk
    repeat' ( simp -implicitDefEqProofs only [syms, symx, seval, c10])
    exact hk _ (z.upW _ _ (by omega))
  obtain ⟨r, hr, hr'⟩ := amElem (l := l) (i := i) (by omega)
  obtain ⟨s, hs, hs'⟩ := amElem (l := m) (i := i) (by omega)
  simp -implicitDefEqProofs only [syms, symx, seval, c10]
  repeat' ((first | ((with_reducible  apply forkNP ) <;> intro _) | with_reducible_and_instances refine ixa_at (hl.mono z.inc) ds23 sz36 (by omega) hr (fun p hp => ?_) | with_reducible_and_instances refine ixa_at (hm.mono z.inc) ds23 sz36 (by omega) hs (fun p hp => ?_) | with_reducible_and_instances refine lda hp ag36 sz36 ?_ | with_reducible refine drawN (by simp only [c10]) (z.upW _ _ (by omega)) ?_ | ((with_reducible refine ⟨z.grw.lay _ _, ?_⟩); (intro _ h' zz x _); (try simp only [lay_lay, List.append_nil] at x); (replace z := zz); (clear zz); rw [lay_nil h'])) <;> simp -implicitDefEqProofs only [syms, symx, seval, c10, bin_atomN])
  · have hne : ¬ r = s := by assumption
    rw [decide_eq_false (show ¬ l = m from fun e => by
      subst e
      rw [hr'] at hs'
      exact hne (Option.some.inj hs'))] at hk
    exact hk _ (z.upW _ _ (by omega))
  · have he : r = s := by assumption
    rw [hw]
    (rw [hI1]; with_reducible refine loopN_normal (m := _) ?_ ⟨i + 1, _, rfl, z, ⟨rfl, by omega, by rw [List.take_add_one, List.take_add_one, hr', hs', htk, he]⟩, junk (by kernel_rfl)⟩; omega)
end Go.Proofs.YtemapihoobmonaaDoor
