/- The code of some functions, node by node, for simp. Written by a program (mkcode.py). No condition. -/
import Derived.Test.YtompindebndddaaG30
import Derived.Test.YtompindebndddaaG27
import Derived.KernelRfl
import Derived.Test.YtompindebndddaaZE8
import Derived.Test.YtompindebndddaaG22
namespace Go.Proofs.Ytompindebndddaa
open Go.Am
set_option linter.unusedVariables false
set_option linter.unusedSimpArgs false
set_option maxRecDepth 100000
set_option maxHeartbeats 0
noncomputable def N5 := nodeF Try.f5
noncomputable def x5 := PLift.up (by have c := factsOf N5 Try.f5; simp only [codeOf, Try.f5, Option.getD_some, factsF, opsF, opsX, ncount, wantG, dstL, quietS, List.append_eq, List.cons_append, List.nil_append, seval] at c; exact nd c <| nd @bs81 <| nd @ix23 <| nd @ld39 <| nd @ln23 <| @fi5)
theorem c5 : type_of% x5.down := x5.down
noncomputable def N7 := nodeF Try.f7
noncomputable def x7 := PLift.up (by have c := factsOf N7 Try.f7; simp only [codeOf, Try.f7, Option.getD_some, factsF, opsF, opsX, ncount, wantG, dstL, quietS, List.append_eq, List.cons_append, List.nil_append, seval] at c; exact nd c <| nd @ix23 <| nd @ld39 <| nd @ln23 <| @fi7)
noncomputable def N44 := nodeF Try.f44
noncomputable def x44 := PLift.up (by have c := factsOf N44 Try.f44; simp only [codeOf, Try.f44, Option.getD_some, factsF, opsF, opsX, ncount, wantG, dstL, quietS, List.append_eq, List.cons_append, List.nil_append, seval] at c; exact nd c <| nd @bs23 <| nd @ld39 <| @fi44)
theorem c44 : type_of% x44.down := x44.down
end Go.Proofs.Ytompindebndddaa
namespace Go.Proofs.Ytompindebndddaa
open Go.Am
set_option linter.unusedSimpArgs false
set_option linter.unusedVariables false
set_option maxRecDepth 100000
set_option maxHeartbeats 0
theorem ok_ins (s : List AtomD) (a : AtomD) (i : Nat) (w : Value) (h h1 : Heap) (z : Ext h h1) (ho : OwnA h h1 39 w s) (hn : s.length ≤ 10000) (hin : i ≤ s.length) (lw : Nat) (hlw : min h1.low h1.size ≤ lw) (K : Value → Heap → Prop)
    (hk : ∀ h' w', Ext h h' → OwnA h h' 39 w' (s.take i ++ a :: s.drop i) → K w' h') : Ok Try.prog tab ov 113 [w, .int .i64 i, .slice (some ⟨h1.size + 0, 0, none⟩) 1 1] (h1.lay [.row a.cells 39 false] lw) K := by
  obtain ⟨w', H', e, ho', A, hA, c⟩ := ins_own (i := i) (a := a) (lw := lw) ins_desc ins_info (by decide) (by decide) z.size ho hn hin
  exact Ok.over rfl e (hk _ _ (z.stepW c hA hlw) ho')
theorem ok_add (l : List AtomD) (a : AtomD) (v : Value) (h : Heap) (hl : Sl Rep.atom h v l) (hn : l.length ≤ 900) (hlt : ∀ x ∈ l, x.light = true) (ha : a.light = true) (K : Value → Heap → Prop)
    (hk : ∀ h' w, Ext h h' → OwnA h h' 39 w (putA a (sortA l)) → K (.tuple #[w, .bool (!hasA l a)]) h') : Ok Try.prog tab ov 44 [v, a.val] h K := by
  rw [lay_nil h]
  have z := Ext.refl h
  refine Ok.into rfl tab_fn44 (bodyF N44) rfl (m := 22) rfl ?_
  simp -implicitDefEqProofs only [syms, symx, seval, c44, cells_atom]
  refine ok_made l v _ (hl.lay _ _) hn hlt _ (fun h' w x ho => ?_)
  replace ho := ho.down (h0 := h) (by rw [lay_size]; omega)
  have q0 := Holds.top (i := 0) x rfl
  ((skip); replace z := z.overW x (by (try simp only [lsz]); omega); rw [lay_nil h'])
  have hva := vSelf w
  repeat' ( simp -implicitDefEqProofs only [syms, symx, seval, c44, hva, q0.lay, cells_atom, ↓cut_atom, agg_atom, valE_atom])
  have hll := sortA_length l
  refine ok_place (sortA l) a w _ (ho.sl.lay _ _) (sortA_of l).asc (by omega) (sortA_light hlt) ha _ (fun h' i x hp => ?_)
  replace ho := (ho.lay _ _).mono x.inc
  ((skip); replace z := z.overW x (by (try simp only [lsz]); omega); (try replace q0 := q0.over x); rw [lay_nil h'])
  cases hb : hasA (sortA l) a
  · have hpp := put_place hp hb
    rw [hasA_sort] at hb
    repeat' ( simp -implicitDefEqProofs only [syms, symx, seval, c44, hva, q0.lay, cells_atom, ↓cut_atom, agg_atom, valE_atom])
    repeat' ( simp -implicitDefEqProofs only [syms, symx, seval, c44, fill_atom])
    rw [hb] at hk
    have hz := z.size
    refine ok_ins (sortA l) a i w h h' z ho (by omega) hp.le _ (by omega) _ (fun h' w' x ho => ?_)
    replace z := x
    rw [hpp] at ho
    have hva : ∀ (h : Heap) (K : Value → Heap → Prop), valE (some w') h K = K w' h := fun _ _ => rfl
    rw [lay_nil h']
    repeat' ( simp -implicitDefEqProofs only [syms, symx, seval, c44, hva])
    exact hk _ _ (z.upW _ _ (by omega)) (ho.lay _ _)
  · have hpp := put_has (sortA_of l).asc hb
    rw [hasA_sort] at hb
    rw [hb, hpp] at hk
    repeat' ( simp -implicitDefEqProofs only [syms, symx, seval, c44, hva])
    exact hk _ _ (z.upW _ _ (by omega)) (ho.lay _ _)
end Go.Proofs.Ytompindebndddaa
