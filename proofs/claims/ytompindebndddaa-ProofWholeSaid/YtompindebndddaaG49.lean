/- The code of some functions, node by node, for simp. Written by a program (mkcode.py). No condition. -/
import Derived.Test.YtompindebndddaaG19
import Derived.Test.YtompindebndddaaG14
import Derived.KernelRfl
import Derived.Test.YtompindebndddaaG41
import Derived.Test.YtompindebndddaaG48
import Derived.Test.YtompindebndddaaG12
import Derived.Test.YtompindebndddaaRows
namespace Go.Proofs.Ytompindebndddaa
open Go.Am
set_option linter.unusedVariables false
set_option linter.unusedSimpArgs false
set_option maxRecDepth 100000
set_option maxHeartbeats 0
noncomputable def N197 := nodeF Try.f197
noncomputable def x197 := PLift.up (by have c := factsOf N197 Try.f197; simp only [codeOf, Try.f197, Option.getD_some, factsF, opsF, opsX, ncount, wantG, dstL, quietS, List.append_eq, List.cons_append, List.nil_append, seval] at c; exact nd c <| nd @ix32 <| nd @ld3 <| nd @ln32 <| @fi197)
theorem c197 : type_of% x197.down := x197.down
noncomputable def N161 := nodeF Try.f161
noncomputable def x161 := PLift.up (by have c := factsOf N161 Try.f161; simp only [codeOf, Try.f161, Option.getD_some, factsF, opsF, opsX, ncount, wantG, dstL, quietS, List.append_eq, List.cons_append, List.nil_append, seval] at c; exact nd c <| @fi161)
theorem c161 : type_of% x161.down := x161.down
noncomputable def N162 := nodeF Try.f162
noncomputable def x162 := PLift.up (by have c := factsOf N162 Try.f162; simp only [codeOf, Try.f162, Option.getD_some, factsF, opsF, opsX, ncount, wantG, dstL, quietS, List.append_eq, List.cons_append, List.nil_append, seval] at c; exact nd c <| nd @ld3 <| @fi162)
theorem c162 : type_of% x162.down := x162.down
noncomputable def N124 := nodeF Try.f124
noncomputable def x124 := PLift.up (by have c := factsOf N124 Try.f124; simp only [codeOf, Try.f124, Option.getD_some, factsF, opsF, opsX, ncount, wantG, dstL, quietS, List.append_eq, List.cons_append, List.nil_append, seval] at c; exact nd c <| nd @al3 <| nd @al90 <| nd @fa90_2 <| nd @ix84 <| nd @ld32 <| nd @ld90 <| nd @ln84 <| @fi124)
theorem c124 : type_of% x124.down := x124.down
noncomputable def N60 := nodeF Try.f60
noncomputable def x60 := PLift.up (by have c := factsOf N60 Try.f60; simp only [codeOf, Try.f60, Option.getD_some, factsF, opsF, opsX, ncount, wantG, dstL, quietS, List.append_eq, List.cons_append, List.nil_append, seval] at c; exact nd c <| nd @al41 <| nd @al90 <| nd @bs23 <| nd @bs24 <| nd @fa41_2 <| nd @fa90_0 <| nd @fa90_1 <| nd @fa90_2 <| nd @ix32 <| nd @ix84 <| nd @ld23 <| nd @ld3 <| nd @ld32 <| nd @ld39 <| nd @ld41 <| nd @ld90 <| nd @ln32 <| nd @ln84 <| @fi60)
theorem c60 : type_of% x60.down := x60.down
noncomputable def N61 := nodeF Try.f61
noncomputable def x61 := PLift.up (by have c := factsOf N61 Try.f61; simp only [codeOf, Try.f61, Option.getD_some, factsF, opsF, opsX, ncount, wantG, dstL, quietS, List.append_eq, List.cons_append, List.nil_append, seval] at c; exact nd c <| @fi61)
theorem c61 : type_of% x61.down := x61.down
noncomputable def N11 := nodeF Try.f11
noncomputable def x11 := PLift.up (by have c := factsOf N11 Try.f11; simp only [codeOf, Try.f11, Option.getD_some, factsF, opsF, opsX, ncount, wantG, dstL, quietS, List.append_eq, List.cons_append, List.nil_append, seval] at c; exact nd c <| nd @fa90_0 <| nd @fa90_2 <| nd @ix23 <| nd @ix32 <| nd @ix84 <| nd @ld3 <| nd @ld32 <| nd @ld39 <| nd @ln23 <| nd @ln32 <| nd @ln84 <| @fi11)
theorem c11 : type_of% x11.down := x11.down
end Go.Proofs.Ytompindebndddaa
namespace Go.Proofs.Ytompindebndddaa
open Go.Am
set_option linter.unusedSimpArgs false
set_option linter.unusedVariables false
set_option maxRecDepth 100000
set_option maxHeartbeats 0
theorem ok_indexIntF (l : List Int) (v fv : Value) (pr : Int → Bool) (h : Heap) (hl : Sl Rep.int h v l) (hs : l.length ≤ 1000) (hpf : ∀ (x : Int) (hc : Heap) (K : Value → Heap → Prop), Ext h hc → (∀ h', Ext hc h' → K (.bool (pr x)) h') → callE Try.prog tab ov [.int .i64 x] hc K fv) (K : Value → Heap → Prop)
    (hk : ∀ h', Ext h h' → K (.int .i64 (idxP pr l)) h') : Ok Try.prog tab ov 197 [v, fv] h K := by
  rw [lay_nil h]
  have z := Ext.refl h
  refine Ok.into rfl tab_fn197 (bodyF N197) rfl (m := 17) rfl ?_
  simp -implicitDefEqProofs only [syms, symx, seval, c197]
  repeat' ((first | ((with_reducible first | apply forkD | apply forkB | apply forkN | apply forkNP | apply forkNot) <;> intro _) | with_reducible_and_instances refine ln_rule hl ds32 ?_) <;> simp -implicitDefEqProofs only [syms, symx, seval, c197])
  obtain ⟨I1, hI1⟩ : ∃ I : Nat → Env → Heap → Prop, I = (fun n e h' => ∃ (i : Nat) (h1 : Heap), h' = h1.lay [] h1.low ∧ Ext h h1 ∧ (n = l.length - i ∧ i ≤ l.length ∧ ∀ x ∈ l.take i, pr x = false) ∧ ∃ J : Nat → Value, e = (v :: fv :: jr J 2 5 (.int .i64 l.length :: .int .i64 i :: jr J 9 10 ([])))) := ⟨_, rfl⟩
  refine W_loopN I1 _ (by rw [hI1]; exact ⟨0, _, rfl, z, ⟨rfl, by omega, by simp⟩, junk (by kernel_rfl)⟩) ?_
  intro n e h' hin
  rw [hI1] at hin
  obtain ⟨i, h1', rfl, z, hinv, J, rfl⟩ := hin
  obtain ⟨rfl, hi, hall⟩ := hinv
  have hw : IntKind.i64.wrap ((i : Int) + 1) = ((i + 1 : Nat) : Int) := by rw [wrap_i64 (by omega) (by omega)]; omega
  repeat' (first | simp -implicitDefEqProofs only [syms, symx, seval, c197] | ((with_reducible first | apply forkD | apply forkB | apply forkN | apply forkNP | apply forkNot) <;> intro _) | with_reducible_and_instances refine ln_rule hl ds32 ?_)
  rotate_left
  · rw [List.take_of_length_le (by omega)] at hall
    have := idx_none hall
    rw [this] at hk
    exact hk _ (z.upW _ _ (by omega))
  obtain ⟨r, hr, hr'⟩ := amElem (l := l) (i := i) (by assumption)
  repeat' ((first | ((with_reducible first | apply forkD | apply forkB | apply forkN | apply forkNP | apply forkNot) <;> intro _) | with_reducible_and_instances refine ixi_at (hl.mono z.inc) ds32 sz3 (by omega) hr (fun p hp => ?_) | with_reducible_and_instances refine ld_one hp ag3 ?_) <;> simp -implicitDefEqProofs only [syms, symx, seval, c197])
  refine hpf _ _ _ (z.upW _ _ (by omega)) (fun h' x => ?_)
  ((skip); replace z := z.overW x (by (try simp only [lsz]); omega); rw [lay_nil h'])
  cases hx : pr r
  rotate_left
  · simp -implicitDefEqProofs only [syms, symx, seval, c197]
    have := idx_found hr' hall hx
    rw [this] at hk
    exact hk _ (z.upW _ _ (by omega))
  · simp -implicitDefEqProofs only [syms, symx, seval, c197]
    rw [hw]
    (rw [hI1]; with_reducible refine loopN_normal (m := _) ?_ ⟨i + 1, _, rfl, z, ⟨rfl, by omega, take_all (i := i) (P := fun x : Int => pr x = false) hr' hall hx⟩, junk (by kernel_rfl)⟩; omega)
theorem ok_containsIntF (l : List Int) (v fv : Value) (pr : Int → Bool) (h : Heap) (hl : Sl Rep.int h v l) (hs : l.length ≤ 1000) (hpf : ∀ (x : Int) (hc : Heap) (K : Value → Heap → Prop), Ext h hc → (∀ h', Ext hc h' → K (.bool (pr x)) h') → callE Try.prog tab ov [.int .i64 x] hc K fv) (K : Value → Heap → Prop)
    (hk : ∀ h', Ext h h' → K (.bool (l.any pr)) h') : Ok Try.prog tab ov 161 [v, fv] h K := by
  refine Ok.into rfl tab_fn161 (bodyF N161) rfl (m := 7) rfl ?_
  simp -implicitDefEqProofs only [syms, symx, seval, c161]
  refine ok_indexIntF l v fv pr h hl hs hpf _ (fun h' x => ?_)
  simp -implicitDefEqProofs only [syms, symx, seval, c161, idx_any]
  refine forkT (fun hh => ?_) (fun hh => ?_)
  all_goals
    simp -implicitDefEqProofs only [syms, symx, seval, c161]
    rw [hh] at hk
    exact hk _ x
theorem ok_ahead1 (i : Nat) (c : Int) (A : Nat) (h : Heap) (q0 : Holds h A (.row [.int .i64 i] 3 false)) (K : Value → Heap → Prop)
    (hk : ∀ h', Ext h h' → K (.bool (decide (¬ (0 ≤ c ∧ c < (i : Int))))) h') : Ok Try.prog tab ov 162 [.int .i64 c, .pointer (some ⟨A, 0, none⟩)] h K := by
  rw [lay_nil h]
  have z := Ext.refl h
  refine Ok.into rfl tab_fn162 (bodyF N162) rfl (m := 9) rfl ?_
  simp -implicitDefEqProofs only [syms, symx, seval, c162, q0.lay]
  refine forkD (fun h1 => ?_) (fun h1 => ?_)
  · simp -implicitDefEqProofs only [syms, symx, seval, c162]
    rw [decide_eq_true (by omega)] at hk
    exact hk _ (z.upW _ _ (by omega))
  · simp -implicitDefEqProofs only [syms, symx, seval, c162, q0.lay]
    refine forkD (fun h2 => ?_) (fun h2 => ?_)
    · simp -implicitDefEqProofs only [syms, symx, seval, c162]
      rw [decide_eq_true (by omega)] at hk
      exact hk _ (z.upW _ _ (by omega))
    · simp -implicitDefEqProofs only [syms, symx, seval, c162]
      rw [decide_eq_false (by omega)] at hk
      exact hk _ (z.upW _ _ (by omega))
theorem any_ahead {l : List Int} {i : Nat} : l.any (fun c => decide (¬ (0 ≤ c ∧ c < (i : Int)))) = false ↔ ∀ c ∈ l, 0 ≤ c ∧ c < (i : Int) := by
  rw [List.any_eq_false]
  simp only [decide_eq_true_eq, Classical.not_not]
theorem ahead_next {l : List StepD} {i : Nat} {r : StepD} (hr : l[i]? = some r) (h : AheadD (l.take i)) (hc : ∀ c ∈ r.cites, 0 ≤ c ∧ c < (i : Int)) : AheadD (l.take (i + 1)) := by
  intro j x hx c hcx
  rw [List.getElem?_take] at hx
  split at hx
  · by_cases hj : j = i
    · subst hj
      rw [hr] at hx
      cases hx
      exact hc c hcx
    · exact h j x (by rw [List.getElem?_take_of_lt (by omega)]; exact hx) c hcx
  · cases hx
theorem ok_ahead (l : List StepD) (v : Value) (h : Heap) (hl : Sl Rep.step h v l) (hs : l.length ≤ 1000) (hc : ∀ s ∈ l, s.cites.length ≤ 1000) (K : Value → Heap → Prop)
    (h1k : AheadD l → ∀ h', Ext h h' → K (.bool true) h') (h2k : ¬ AheadD l → ∀ h', Ext h h' → K (.bool false) h') : Ok Try.prog tab ov 124 [v] h K := by
  rw [lay_nil h]
  have z := Ext.refl h
  have hva := vSelf v
  have hlv := fun (hh : Heap) => hl.lenA ds84 hh
  refine Ok.into rfl tab_fn124 (bodyF N124) rfl (m := 16) rfl ?_
  repeat' (first | simp -implicitDefEqProofs only [syms, symx, seval, c124, hva, hlv] | ((with_reducible first | apply forkD | apply forkB | apply forkN | apply forkNP | apply forkNot) <;> intro _) | with_reducible_and_instances refine ixi_at (hl.mono z.inc) ds32 sz3 (by omega) hr (fun p hp => ?_) | with_reducible_and_instances refine ld_one hp ag3 ?_)
  obtain ⟨I1, hI1⟩ : ∃ I : Nat → Env → Heap → Prop, I = (fun n e h' => ∃ (i : Nat) (h1 : Heap), h' = h1.lay [] h1.low ∧ Ext h h1 ∧ (n = l.length - i ∧ i ≤ l.length ∧ AheadD (l.take i)) ∧ ∃ J : Nat → Value, e = (v :: jr J 1 4 (v :: .int .i64 l.length :: .int .i64 i :: jr J 8 9 ([])))) := ⟨_, rfl⟩
  refine W_loopN I1 _ (by rw [hI1]; exact ⟨0, _, rfl, z, ⟨rfl, by omega, fun j x hx => by simp at hx⟩, junk (by kernel_rfl)⟩) ?_
  intro n e h' hin
  rw [hI1] at hin
  obtain ⟨i, h1', rfl, z, hinv, J, rfl⟩ := hin
  obtain ⟨rfl, hi, hall⟩ := hinv
  have hw : IntKind.i64.wrap ((i : Int) + 1) = ((i + 1 : Nat) : Int) := by rw [wrap_i64 (by omega) (by omega)]; omega
  simp -implicitDefEqProofs only [syms, symx, seval, c124, hva]
  refine forkD (fun hlt => ?_) (fun hlt => ?_)
  rotate_left
  · rw [List.take_of_length_le (by omega)] at hall
    repeat' (first | simp -implicitDefEqProofs only [syms, symx, seval, c124] | ((with_reducible first | apply forkD | apply forkB | apply forkN | apply forkNP | apply forkNot) <;> intro _) | with_reducible_and_instances refine ixi_at (hl.mono z.inc) ds32 sz3 (by omega) hr (fun p hp => ?_) | with_reducible_and_instances refine ld_one hp ag3 ?_)
    exact h1k hall _ (z.upW _ _ (by omega))
  obtain ⟨r, hr, hr'⟩ := amElem (l := l) (i := i) (by omega)
  repeat' (first | simp -implicitDefEqProofs only [syms, symx, seval, c124, hva] | ((with_reducible first | apply forkD | apply forkB | apply forkN | apply forkNP | apply forkNot) <;> intro _) | with_reducible_and_instances refine ixp_at (hl.mono z.inc) ds84 sz90 (by omega) hr (fun p b hb hp => ?_) | with_reducible_and_instances refine ldr hp ag90 sz90 ?_)
  have hall13 := one_reP (a := r.re.atom) (n := r.re.clause) hb.one
  have hvb := vSelf b
  repeat' (first | simp -implicitDefEqProofs only [syms, symx, seval, c124, lay_set, storeO_row, List.all_cons, List.all_nil, one, Bool.and_true, Bool.true_and, Bool.and_self, List.set_cons_zero, List.set_cons_succ, st4, st3, st9, st36, st39, st47, st41, st192, st90, len_reP, hall13, dec13P, if_true, ↓cut_re13P, cell_re2P, hvb] | ((with_reducible first | apply forkD | apply forkB | apply forkN | apply forkNP | apply forkNot) <;> intro _) | with_reducible_and_instances refine ixp_at (hl.mono z.inc) ds84 sz90 (by omega) hr (fun p b hb hp => ?_) | with_reducible_and_instances refine ldr hp ag90 sz90 ?_)
  refine ok_containsIntF r.cites b _ (fun c => decide (¬ (0 ≤ c ∧ c < (i : Int)))) _ (hb.lay _ _) (hc r (List.mem_of_getElem? hr')) (fun c hcc K' xe hk' => ?_) _ (fun h' x => ?_)
  · rw [callE_clos]
    exact ok_ahead1 i c _ hcc (Holds.top (i := 0) xe rfl) K' hk'
  ((skip); replace z := z.overW x (by (try simp only [lsz]); omega); rw [lay_nil h'])
  cases hx : r.cites.any (fun c => decide (¬ (0 ≤ c ∧ c < (i : Int))))
  · rw [any_ahead] at hx
    repeat' (first | simp -implicitDefEqProofs only [syms, symx, seval, c124] | ((with_reducible first | apply forkD | apply forkB | apply forkN | apply forkNP | apply forkNot) <;> intro _) | with_reducible_and_instances refine ixp_at (hl.mono z.inc) ds84 sz90 (by omega) hr (fun p b hb hp => ?_) | with_reducible_and_instances refine ldr hp ag90 sz90 ?_)
    rw [hw]
    (rw [hI1]; with_reducible refine loopN_normal (m := _) ?_ ⟨i + 1, _, rfl, z, ⟨rfl, by omega, ahead_next hr' hall hx⟩, junk (by kernel_rfl)⟩; omega)
  · have hna : ¬ AheadD l := fun ha => by
      rw [any_ahead.2 (ha i r hr')] at hx
      cases hx
    repeat' (first | simp -implicitDefEqProofs only [syms, symx, seval, c124] | ((with_reducible first | apply forkD | apply forkB | apply forkN | apply forkNP | apply forkNot) <;> intro _) | with_reducible_and_instances refine ixp_at (hl.mono z.inc) ds84 sz90 (by omega) hr (fun p b hb hp => ?_) | with_reducible_and_instances refine ldr hp ag90 sz90 ?_)
    exact h2k hna _ (z.upW _ _ (by omega))
theorem ow_pick {α : Type} {r : Rep α} {h0 h : Heap} {e A : Nat} {v : Value} {l : List α} (f : Ow r h0 h e A v l) (N : Nat) (hN : h0.size ≤ N) : ∃ A2, Ow r h0 h e A2 v l ∧ (A2 < h.size ∨ A2 = N) := by
  rcases f with ⟨f1, f2, f3⟩ | ⟨row, e1, e2, e3, e4, rest⟩
  · exact ⟨N, .inl ⟨hN, f2, f3⟩, .inr rfl⟩
  · exact ⟨A, .inr ⟨row, e1, e2, e3, e4, rest⟩, .inl e4⟩
theorem bld_reason (a : AtomD) (n : Int) : buildA tab 41 [(0, a.val), (1, .int .i64 n)] = some (.agg ⟨a.cells ++ [.int .i64 n, .slice none 0 0]⟩) := by kernel_rfl
theorem ok_reasons (l : List StepD) (v : Value) (h : Heap) (hl : Sl Rep.step h v l) (hs : l.length ≤ 1000) (hc : ∀ s ∈ l, s.cites.length ≤ 1000) (K : Value → Heap → Prop)
    (h1k : AheadD l → ∀ h' w, Ext h h' → Sl Rep.reason h' w (reasonsD l) → K (.tuple #[w, .int .i64 0]) h') (h2k : ¬ AheadD l → ∀ h', Ext h h' → K (.tuple #[.slice none 0 0, .int .i64 2]) h') : Ok Try.prog tab ov 60 [v] h K := by
  rw [lay_nil h]
  have z := Ext.refl h
  have hva := vSelf v
  have hlv := fun (hh : Heap) => hl.lenA ds84 hh
  refine Ok.into rfl tab_fn60 (bodyF N60) rfl (m := 47) rfl ?_
  repeat' (first | simp -implicitDefEqProofs only [syms, symx, seval, c60, hva] | ((with_reducible first | apply forkD | apply forkB | apply forkN | apply forkNP | apply forkNot) <;> intro _) | with_reducible_and_instances refine ixp_at (hl.mono z.inc) ds84 sz90 (by omega) hr (fun p b hb hp => ?_) | with_reducible_and_instances refine ldr hp ag90 sz90 ?_ | ((with_reducible_and_instances apply unop_not); (· rfl)) | ((with_reducible refine ⟨z.grw.lay _ _, ?_⟩); (intro _ h' zz x _); (try simp only [lay_lay, List.append_nil] at x); (replace z := zz); (clear zz); rw [lay_nil h']))
  refine ok_ahead l v _ (hl.lay _ _) hs hc _ (fun ha h' x => ?_) (fun ha h' x => ?_)
  rotate_left
  · ((first | ((with_reducible refine KOpsX_call ?_ ?_ ?_); (· exact (by (try simp only [lsz]); have := z.size; omega)); (· first | exact x | simpa only [lla] using x)) | skip); replace z := z.overW x (by (try simp only [lsz]); omega); rw [lay_nil h'])
    repeat' (first | simp -implicitDefEqProofs only [syms, symx, seval, c60] | ((with_reducible first | apply forkD | apply forkB | apply forkN | apply forkNP | apply forkNot) <;> intro _) | with_reducible_and_instances refine ixp_at (hl.mono z.inc) ds84 sz90 (by omega) hr (fun p b hb hp => ?_) | with_reducible_and_instances refine ldr hp ag90 sz90 ?_ | ((with_reducible_and_instances apply unop_not); (· rfl)) | ((with_reducible refine ⟨z.grw.lay _ _, ?_⟩); (intro _ h' zz x _); (try simp only [lay_lay, List.append_nil] at x); (replace z := zz); (clear zz); rw [lay_nil h']))
    exact h2k ha _ (z.upW _ _ (by omega))
  ((first | ((with_reducible refine KOpsX_call ?_ ?_ ?_); (· exact (by (try simp only [lsz]); have := z.size; omega)); (· first | exact x | simpa only [lla] using x)) | skip); replace z := z.overW x (by (try simp only [lsz]); omega); rw [lay_nil h'])
  have hz0 := z.size
  repeat' (first | simp -implicitDefEqProofs only [syms, symx, seval, c60, hva, hlv] | ((with_reducible first | apply forkD | apply forkB | apply forkN | apply forkNP | apply forkNot) <;> intro _) | with_reducible_and_instances refine ixp_at (hl.mono z.inc) ds84 sz90 (by omega) hr (fun p b hb hp => ?_) | with_reducible_and_instances refine ldr hp ag90 sz90 ?_ | ((with_reducible_and_instances apply unop_not); (· rfl)) | ((with_reducible refine ⟨z.grw.lay _ _, ?_⟩); (intro _ h' zz x _); (try simp only [lay_lay, List.append_nil] at x); (replace z := zz); (clear zz); rw [lay_nil h']))
  obtain ⟨I1, hI1⟩ : ∃ I : Nat → Env → Heap → Prop, I = (fun n e h' => ∃ (i : Nat) (wv : Value) (A : Nat) (h1 : Heap), h' = h1.lay [] h1.low ∧ Ext h h1 ∧ (n = l.length - i ∧ i ≤ l.length ∧ Ow Rep.reason h h1 41 A wv ((l.take i).map (backD l))) ∧ ∃ J : Nat → Value, e = (v :: jr J 1 3 (wv :: jr J 5 8 (v :: .int .i64 l.length :: .int .i64 i :: jr J 16 32 ([]))))) := ⟨_, rfl⟩
  refine W_loopN I1 _ (by rw [hI1]; exact ⟨0, .slice none 0 0, h.size, _, rfl, z, ⟨rfl, by omega, Ow.nil (Nat.le_refl _)⟩, junk (by kernel_rfl)⟩) ?_
  intro n e h' hin
  rw [hI1] at hin
  obtain ⟨i, wv, A, h1', rfl, z, hinv, J, rfl⟩ := hin
  obtain ⟨rfl, hi, ow⟩ := hinv
  have hz1 := z.size
  have hwi : IntKind.i64.wrap ((i : Int) + 1) = ((i + 1 : Nat) : Int) := by rw [wrap_i64 (by omega) (by omega)]; omega
  have hvw := vSelf wv
  simp -implicitDefEqProofs only [syms, symx, seval, c60, hva]
  refine forkD (fun hlt1 => ?_) (fun hlt1 => ?_)
  rotate_left
  · rw [List.take_of_length_le (by omega)] at ow
    repeat' (first | simp -implicitDefEqProofs only [syms, symx, seval, c60, hvw] | ((with_reducible first | apply forkD | apply forkB | apply forkN | apply forkNP | apply forkNot) <;> intro _) | with_reducible_and_instances refine ixp_at (hl.mono z.inc) ds84 sz90 (by omega) hr (fun p b hb hp => ?_) | with_reducible_and_instances refine ldr hp ag90 sz90 ?_ | ((with_reducible_and_instances apply unop_not); (· rfl)) | ((with_reducible refine ⟨z.grw.lay _ _, ?_⟩); (intro _ h' zz x _); (try simp only [lay_lay, List.append_nil] at x); (try replace ow := ow.over x); (replace z := zz); (clear zz); rw [lay_nil h']))
    exact h1k ha _ _ (z.upW _ _ (by omega)) ((ow.sl (by decide)).lay _ _)
  obtain ⟨r, hr, hr'⟩ := amElem (l := l) (i := i) (by omega)
  repeat' (first | simp -implicitDefEqProofs only [syms, symx, seval, c60, hva] | ((with_reducible first | apply forkD | apply forkB | apply forkN | apply forkNP | apply forkNot) <;> intro _) | with_reducible_and_instances refine ixp_at (hl.mono z.inc) ds84 sz90 (by omega) hr (fun p b hb hp => ?_) | with_reducible_and_instances refine ldr hp ag90 sz90 ?_ | ((with_reducible_and_instances apply unop_not); (· rfl)) | ((with_reducible refine ⟨z.grw.lay _ _, ?_⟩); (intro _ h' zz x _); (try simp only [lay_lay, List.append_nil] at x); (try replace ow := ow.over x); (replace z := zz); (clear zz); rw [lay_nil h']))
  have hall := one_reP (a := r.re.atom) (n := r.re.clause) hb.one
  have hall2 := one_reM (a := r.re.atom) (n := r.re.clause) (w := .slice none 0 0) rfl
  have hvb := vSelf b
  repeat' (first | simp -implicitDefEqProofs only [syms, symx, seval, c60, lay_set, storeO_row, List.all_cons, List.all_nil, one, Bool.and_true, Bool.true_and, Bool.and_self, List.set_cons_zero, List.set_cons_succ, st4, st3, st9, st36, st39, st47, st41, st192, st90, len_reP, hall, dec13P, if_true, ↓cut_re13P, ↓cut_re0P, agg_atom, valE_atom, cell_re1P, cell_re2P, hvb, bld_reason, hall2] | ((with_reducible first | apply forkD | apply forkB | apply forkN | apply forkNP | apply forkNot) <;> intro _) | with_reducible_and_instances refine ixp_at (hl.mono z.inc) ds84 sz90 (by omega) hr (fun p b hb hp => ?_) | with_reducible_and_instances refine ldr hp ag90 sz90 ?_ | ((with_reducible_and_instances apply unop_not); (· rfl)) | ((with_reducible refine ⟨z.grw.lay _ _, ?_⟩); (intro _ h' zz x _); (try simp only [lay_lay, List.append_nil] at x); (try replace ow := ow.over x); (replace z := zz); (clear zz); rw [lay_nil h']))
  have hlb := fun (hh : Heap) => hb.lenA ds32 hh
  repeat' (first | simp -implicitDefEqProofs only [syms, symx, seval, c60, hlb, hvb] | ((with_reducible first | apply forkD | apply forkB | apply forkN | apply forkNP | apply forkNot) <;> intro _) | with_reducible_and_instances refine ixp_at (hl.mono z.inc) ds84 sz90 (by omega) hr (fun p b hb hp => ?_) | with_reducible_and_instances refine ldr hp ag90 sz90 ?_ | ((with_reducible_and_instances apply unop_not); (· rfl)) | ((with_reducible refine ⟨z.grw.lay _ _, ?_⟩); (intro _ h' zz x _); (try simp only [lay_lay, List.append_nil] at x); (try replace ow := ow.over x); (replace z := zz); (clear zz); rw [lay_nil h']))
  refine W_fold (fun h' x hq => ?_)
  have e0 := hq 0 _ rfl
  have s0 := hq 1 _ rfl
  clear hq
  (replace z := z.overW x (by (try simp only [lsz]); omega); rw [lay_nil h'])
  have zi : Grw h1' h' := (Ext.refl h1').grw.over x
  obtain ⟨E0, hE0⟩ : ∃ E0, E0 = h1'.size + 0 := ⟨_, rfl⟩
  obtain ⟨S0, hS0⟩ : ∃ S0, S0 = h1'.size + 1 := ⟨_, rfl⟩
  rw [← hE0] at e0
  rw [← hS0] at s0
  rw [← hE0, ← hS0]
  have hz2 := z.size
  have hclen := hc r (List.mem_of_getElem? hr')
  obtain ⟨I2, hI2⟩ : ∃ I : Nat → Env → Heap → Prop, I = (fun n e h' => ∃ (j : Nat) (cv : Value) (C : Nat) (h1 : Heap), h' = h1.lay [] h1.low ∧ Ext h h1 ∧ (n = r.cites.length - j ∧ j ≤ r.cites.length ∧ Grw h1' h1 ∧ Holds h1 E0 (.row (r.atom.cells ++ [.int .i64 r.clause, b]) 90 false) ∧ Holds h1 S0 (.row (r.atom.cells ++ [.int .i64 r.clause, cv]) 41 false) ∧ Ow Rep.atom h1' h1 39 C cv ((r.cites.take j).map fun c => (l.getD c.toNat noStepD).atom) ∧ C ≠ E0 ∧ C ≠ S0) ∧ ∃ J : Nat → Value, e = (v :: jr J 1 3 (wv :: J 5 :: .pointer (some ⟨E0, 0, none⟩) :: .pointer (some ⟨S0, 0, none⟩) :: jr J 8 5 (v :: .int .i64 l.length :: .int .i64 i :: jr J 16 9 (b :: .int .i64 r.cites.length :: .int .i64 j :: jr J 28 20 ([])))))) := ⟨_, rfl⟩
  refine W_loopN I2 _ (by rw [hI2]; exact ⟨0, .slice none 0 0, S0 + 1, _, rfl, z, ⟨rfl, by omega, zi, e0, s0, Ow.nil (by omega), by omega, by omega⟩, junk (by kernel_rfl)⟩) ?_
  intro n e h' hin
  rw [hI2] at hin
  obtain ⟨j, cv, C, h2', rfl, z, hinv, J, rfl⟩ := hin
  clear zi e0 s0
  obtain ⟨rfl, hj, zi, e0, s0, oc, hC1, hC2⟩ := hinv
  have hwj : IntKind.i64.wrap ((j : Int) + 1) = ((j + 1 : Nat) : Int) := by rw [wrap_i64 (by omega) (by omega)]; omega
  have hvc := vSelf cv
  simp -implicitDefEqProofs only [syms, symx, seval, c60, hvb]
  refine forkD (fun hlt2 => ?_) (fun hlt2 => ?_)
  rotate_left
  · rw [List.take_of_length_le (l := r.cites) (i := j) (by omega)] at oc
    have hzs := z.size
    have hzi := zi.1
    obtain ⟨A, ow, hA2⟩ := ow_pick ow (h2'.size + 1) (by omega)
    have ow3 := ow.mono zi.inc
    repeat' (first | simp -implicitDefEqProofs only [syms, symx, seval, c60, hvw, s0.lay, ↓cut_re13M] | ((with_reducible first | apply forkD | apply forkB | apply forkN | apply forkNP | apply forkNot) <;> intro _) | with_reducible_and_instances refine ixp_at (hl.mono z.inc) ds84 sz90 (by omega) hr (fun p b hb hp => ?_) | with_reducible_and_instances refine ldr hp ag90 sz90 ?_ | ((with_reducible_and_instances apply unop_not); (· rfl)) | ((with_reducible refine ⟨z.grw.lay _ _, ?_⟩); (intro _ h' zz x _); (try simp only [lay_lay, List.append_nil] at x); (try replace s0 := s0.over x); (try replace ow3 := ow3.over x); (try replace oc := oc.over x); (replace z := zz); (clear zz); rw [lay_nil h']))
    simp -implicitDefEqProofs only [syms, symx, seval, c60, fill_step, w_append, sty24]
    obtain ⟨wa, wn, wc, rfl⟩ := oc.slice
    have hHs : (h2'.lay [Blk.row (r.atom.cells ++ [.int .i64 r.clause, .slice wa wn wc]) 41 false] h2'.low).size = h2'.size + 1 := by rw [lay_size]; rfl
    have hR : Rep.reason.R (kill A (h2'.lay [Blk.row (r.atom.cells ++ [.int .i64 r.clause, .slice wa wn wc]) 41 false] h2'.low)) (r.atom.cells ++ [.int .i64 r.clause, .slice wa wn wc]) (backD l r) :=
      ⟨_, rfl, (oc.lay _ _).under (by decide) (fun _ _ _ _ h => h) (hA2.imp id (fun e => by rw [hHs]; omega))⟩
    have hkl : ((l.take i).map (backD l)).length ≤ 1000 := by rw [List.length_map, List.length_take]; omega
    obtain ⟨hs1, hsr⟩ := src_row (r := Rep.reason) (c := 1) (by decide) (show (h2'.lay [Blk.row (r.atom.cells ++ [.int .i64 r.clause, .slice wa wn wc]) 41 false] h2'.low).get (h2'.size + 0) = some (.row (r.atom.cells ++ [.int .i64 r.clause, .slice wa wn wc]) 41 false) by rw [lay_get]; rfl) hR
    obtain ⟨w', h6, A'', e1, e2, e3, e4, e5⟩ := app_ow (t := 24) ds24 tab_info41 rfl (by decide) (by rw [hHs]; omega) (ow3.lay _ _) hs1 hsr (by omega) (by omega)
    have hfA := ow3.fresh
    rw [hHs] at e4
    replace z := (z.upW [Blk.row (r.atom.cells ++ [.int .i64 r.clause, .slice wa wn wc]) 41 false] h2'.low (by omega)).step e3 hfA
    have hz6 := e3.size
    rw [hHs] at hz6
    rw [e1, lay_nil h6]
    have htk : (l.take (i + 1)).map (backD l) = (l.take i).map (backD l) ++ [backD l r] := by rw [List.take_add_one, hr', List.map_append]; rfl
    rw [← htk] at e2
    clear ow3 oc s0
    repeat' (first | simp -implicitDefEqProofs only [syms, symx, seval, c60] | ((with_reducible first | apply forkD | apply forkB | apply forkN | apply forkNP | apply forkNot) <;> intro _) | with_reducible_and_instances refine ixp_at (hl.mono z.inc) ds84 sz90 (by omega) hr (fun p b hb hp => ?_) | with_reducible_and_instances refine ldr hp ag90 sz90 ?_ | ((with_reducible_and_instances apply unop_not); (· rfl)) | ((with_reducible refine ⟨z.grw.lay _ _, ?_⟩); (intro _ h' zz x _); (try simp only [lay_lay, List.append_nil] at x); (try replace e2 := e2.over x); (replace z := zz); (clear zz); rw [lay_nil h']))
    rw [hwi]
    (rw [hI1]; with_reducible refine loopN_normal (m := _) ?_ ⟨i + 1, _, A'', _, rfl, z, ⟨rfl, by omega, e2⟩, junk (by kernel_rfl)⟩; omega)
  obtain ⟨c0, hcr, hcr'⟩ := amElem (l := r.cites) (i := j) (by omega)
  have hcc := ha i r hr' c0 (List.mem_of_getElem? hcr')
  obtain ⟨x0, hx0⟩ : ∃ x0, l[c0.toNat]? = some x0 := ⟨_, List.getElem?_eq_getElem (by omega)⟩
  repeat' (first | simp -implicitDefEqProofs only [syms, symx, seval, c60, hvb] | ((with_reducible first | apply forkD | apply forkB | apply forkN | apply forkNP | apply forkNot) <;> intro _) | with_reducible_and_instances refine ixi_at (hb.mono zi.inc) ds32 sz3 (by omega) hcr (fun p hp => ?_) | with_reducible_and_instances refine ld_one hp ag3 ?_ | with_reducible_and_instances refine ixp_at (hl.mono z.inc) ds84 sz90 (by omega) hx0 (fun p2 b2 hb2 hp2 => ?_) | with_reducible_and_instances refine fdr0 hp2 fa90_0 (fun q hq => ?_) | with_reducible_and_instances refine lda hq ag39 sz39 ?_ | ((with_reducible_and_instances apply unop_not); (· rfl)) | ((with_reducible refine ⟨z.grw.lay _ _, ?_⟩); (intro _ h' zz x _); (try simp only [lay_lay, List.append_nil] at x); (try replace zi := zi.over x); (try replace e0 := e0.over x); (try replace s0 := s0.over x); (try replace oc := oc.over x); (replace z := zz); (clear zz); rw [lay_nil h']))
  repeat' (first | simp -implicitDefEqProofs only [syms, symx, seval, c60, hva, hvc, s0.lay, cell_re2P] | ((with_reducible first | apply forkD | apply forkB | apply forkN | apply forkNP | apply forkNot) <;> intro _) | with_reducible_and_instances refine ixi_at (hb.mono zi.inc) ds32 sz3 (by omega) hcr (fun p hp => ?_) | with_reducible_and_instances refine ld_one hp ag3 ?_ | with_reducible_and_instances refine ixp_at (hl.mono z.inc) ds84 sz90 (by omega) hx0 (fun p2 b2 hb2 hp2 => ?_) | with_reducible_and_instances refine fdr0 hp2 fa90_0 (fun q hq => ?_) | with_reducible_and_instances refine lda hq ag39 sz39 ?_ | ((with_reducible_and_instances apply unop_not); (· rfl)) | with_reducible refine drawN (by simp only [c60]) (z.upW _ _ (by omega)) ?_ | ((with_reducible refine ⟨z.grw.lay _ _, ?_⟩); (intro _ h' zz x _); (try simp only [lay_lay, List.append_nil] at x); (try replace zi := zi.over x); (try replace e0 := e0.over x); (try replace s0 := s0.over x); (try replace oc := oc.over x); (replace z := zz); (clear zz); rw [lay_nil h']))
  simp -implicitDefEqProofs only [syms, symx, seval, c60, fill_atom]
  refine KOpsX_alloc (by have := z.size; omega) (by omega) ?_
  simp -implicitDefEqProofs only [syms, symx, seval, c60, w_append, sty23]
  have hHs : (h2'.lay [Blk.row x0.re.atom.cells 39 false] (h2'.size + 1)).size = h2'.size + 1 := by rw [lay_size]; rfl
  have hcl : ((r.cites.take j).map fun c => (l.getD c.toNat noStepD).atom).length ≤ 1000 := by rw [List.length_map, List.length_take]; omega
  obtain ⟨hs1, hsr⟩ := src_row (r := Rep.atom) (A := C) (c := 1) (y := x0.re.atom) (by decide) (show (h2'.lay [Blk.row x0.re.atom.cells 39 false] (h2'.size + 1)).get (h2'.size + 0) = some (.row x0.re.atom.cells 39 false) by rw [lay_get]; rfl) rfl
  have hzi := zi.1
  obtain ⟨cv', h'', C', e1, e2, e3, e4, e5⟩ := app_ow (t := 23) ds23 tab_info39 rfl (by decide) (by rw [hHs]; omega) (oc.mono (Inc.lay _ _ _)) hs1 hsr (by omega) (by omega)
  have hfC := oc.fresh
  have e0l := e0.lt
  have s0l := s0.lt
  have hzz := z.size
  rw [e1]
  simp -implicitDefEqProofs only [syms, symx, seval, c60]
  refine KOpsX_chg (A := C) (by kernel_rfl) (by rw [lay_size]; omega) (by omega) (by simpa only [lay_lay, lay_size, List.append_nil, List.length_cons, List.length_nil, Nat.zero_add] using e3) ?_
  replace z := (z.upW [Blk.row x0.re.atom.cells 39 false] (h2'.size + 1) (by omega)).step e3 (by omega)
  replace zi := zi.stepL e3 hfC
  replace e0 := e0.stepL e3 (by omega)
  replace s0 := s0.stepL e3 (by omega)
  clear oc
  rw [lay_nil h'']
  repeat' (first | simp -implicitDefEqProofs only [syms, symx, seval, c60] | ((with_reducible first | apply forkD | apply forkB | apply forkN | apply forkNP | apply forkNot) <;> intro _) | with_reducible_and_instances refine ixi_at (hb.mono zi.inc) ds32 sz3 (by omega) hcr (fun p hp => ?_) | with_reducible_and_instances refine ld_one hp ag3 ?_ | with_reducible_and_instances refine ixp_at (hl.mono z.inc) ds84 sz90 (by omega) hx0 (fun p2 b2 hb2 hp2 => ?_) | with_reducible_and_instances refine fdr0 hp2 fa90_0 (fun q hq => ?_) | with_reducible_and_instances refine lda hq ag39 sz39 ?_ | ((with_reducible_and_instances apply unop_not); (· rfl)) | ((with_reducible refine ⟨z.grw.lay _ _, ?_⟩); (intro _ h' zz x _); (try simp only [lay_lay, List.append_nil] at x); (try replace zi := zi.over x); (try replace e0 := e0.over x); (try replace s0 := s0.over x); (try replace e2 := e2.over x); (replace z := zz); (clear zz); rw [lay_nil h']))
  obtain ⟨ca, cn, cc, rfl⟩ := e2.slice
  refine store_cell s0 sz23 (by rw [len_reM]; decide) rfl rfl (fun h4 s0' c4 => ?_)
  have hzz2 := z.size
  have hzh : h2'.size + 1 ≤ h''.size := by have := e3.size; rw [hHs] at this; exact this
  refine KOpsX_chg (A := S0) (by kernel_rfl) (by rw [lay_size]; omega) (by omega) (by simpa only [lay_lay, lay_size, List.append_nil, List.length_cons, List.length_nil, Nat.zero_add] using c4) ?_
  replace z := (z.upW [] _ (by omega)).step c4 (by omega)
  replace zi := zi.stepL c4 (by omega)
  replace e0 := e0.stepL c4 (by omega)
  have hC4 : C' ≠ S0 ∧ C' ≠ E0 := by rw [hHs] at e4; omega
  replace e2 := (e2.lay [] _).chg (fun _ _ _ _ h => h) (by simp) c4 (Ne.symm hC4.1)
  rw [lay_nil h4]
  clear s0
  repeat' (first | simp -implicitDefEqProofs only [syms, symx, seval, c60] | ((with_reducible first | apply forkD | apply forkB | apply forkN | apply forkNP | apply forkNot) <;> intro _) | with_reducible_and_instances refine ixi_at (hb.mono zi.inc) ds32 sz3 (by omega) hcr (fun p hp => ?_) | with_reducible_and_instances refine ld_one hp ag3 ?_ | with_reducible_and_instances refine ixp_at (hl.mono z.inc) ds84 sz90 (by omega) hx0 (fun p2 b2 hb2 hp2 => ?_) | with_reducible_and_instances refine fdr0 hp2 fa90_0 (fun q hq => ?_) | with_reducible_and_instances refine lda hq ag39 sz39 ?_ | ((with_reducible_and_instances apply unop_not); (· rfl)) | with_reducible refine drawN (by simp only [c60]) (z.upW _ _ (by omega)) ?_ | ((with_reducible refine ⟨z.grw.lay _ _, ?_⟩); (intro _ h' zz x _); (try simp only [lay_lay, List.append_nil] at x); (try replace zi := zi.over x); (try replace e0 := e0.over x); (try replace s0' := s0'.over x); (try replace e2 := e2.over x); (replace z := zz); (clear zz); rw [lay_nil h']))
  rw [hwj]
  have hgd : l.getD c0.toNat noStepD = x0 := by rw [List.getD_eq_getElem?_getD, hx0]; rfl
  have htk : ((r.cites.take (j + 1)).map fun c => (l.getD c.toNat noStepD).atom) = ((r.cites.take j).map fun c => (l.getD c.toNat noStepD).atom) ++ [x0.re.atom] := by rw [List.take_add_one, hcr', List.map_append, ← hgd]; rfl
  rw [← htk] at e2
  have s1 : Holds h' S0 (.row (r.atom.cells ++ [.int .i64 r.clause, .slice ca cn cc]) 41 false) := s0'
  (rw [hI2]; with_reducible refine loopN_normal (m := _) ?_ ⟨j + 1, _, C', _, rfl, z, ⟨rfl, by omega, zi, e0, s1, e2, hC4.2, hC4.1⟩, junk (by kernel_rfl)⟩; omega)
theorem ok_trim (l : List StepD) (goals : List AtomD) (v u : Value) (h : Heap) (hl : Sl Rep.step h v l) (hg : Sl Rep.atom h u goals) (hn : l.length ≤ 40) (hc : ∀ s ∈ l, s.cites.length ≤ 1000) (hr : AheadD l → ∀ r ∈ reasonsD l, PlainR r) (hgl : goals.length ≤ 10) (hgi : ∀ x ∈ goals, x.light = true) (hgp : AllP goals) (K : Value → Heap → Prop)
    (h0k : ¬ (AheadD l ∧ PlacedD (reasonsD l)) → ∀ h', Ext h h' → K (.tuple #[.slice none 0 0, .int .i64 2]) h')
    (h2k : AheadD l → PlacedD (reasonsD l) → (∃ g ∈ goals, hasR (reasonsD l) g = false) → ∀ h', Ext h h' → K (.tuple #[.slice none 0 0, .int .i64 13]) h')
    (h3k : AheadD l → PlacedD (reasonsD l) → (∀ g ∈ goals, hasR (reasonsD l) g = true) → ∀ h' w out, Ext h h' → NeedsOf (reasonsD l) goals out → Sl Rep.step h' w (derD (keptD (reasonsD l) out)) → K (.tuple #[w, .int .i64 0]) h') : Ok Try.prog tab ov 61 [v, u] h K := by
  rw [lay_nil h]
  have z := Ext.refl h
  have hva := vSelf v
  have hvu := vSelf u
  refine Ok.into rfl tab_fn61 (bodyF N61) rfl (m := 19) rfl ?_
  repeat' (first | simp -implicitDefEqProofs only [syms, symx, seval, c61, hva] | ((with_reducible first | apply forkD | apply forkB | apply forkN | apply forkNP | apply forkNot) <;> intro _) | with_reducible_and_instances refine ixi_at (hb.mono zi.inc) ds32 sz3 (by omega) hcr (fun p hp => ?_) | with_reducible_and_instances refine ld_one hp ag3 ?_ | with_reducible_and_instances refine ixp_at (hl.mono z.inc) ds84 sz90 (by omega) hx0 (fun p2 b2 hb2 hp2 => ?_) | with_reducible_and_instances refine fdr0 hp2 fa90_0 (fun q hq => ?_) | with_reducible_and_instances refine lda hq ag39 sz39 ?_)
  refine ok_reasons l v _ (hl.lay _ _) (by omega) hc _ (fun ha h' w x sw => ?_) (fun ha h' x => ?_)
  rotate_left
  · ((skip); replace z := z.overW x (by (try simp only [lsz]); omega); rw [lay_nil h'])
    repeat' (first | simp -implicitDefEqProofs only [syms, symx, seval, c61] | ((with_reducible first | apply forkD | apply forkB | apply forkN | apply forkNP | apply forkNot) <;> intro _) | with_reducible_and_instances refine ixi_at (hb.mono zi.inc) ds32 sz3 (by omega) hcr (fun p hp => ?_) | with_reducible_and_instances refine ld_one hp ag3 ?_ | with_reducible_and_instances refine ixp_at (hl.mono z.inc) ds84 sz90 (by omega) hx0 (fun p2 b2 hb2 hp2 => ?_) | with_reducible_and_instances refine fdr0 hp2 fa90_0 (fun q hq => ?_) | with_reducible_and_instances refine lda hq ag39 sz39 ?_)
    exact h0k (fun hh => ha hh.1) _ (z.upW _ _ (by omega))
  ((skip); replace z := z.overW x (by (try simp only [lsz]); omega); rw [lay_nil h'])
  have hvw := vSelf w
  repeat' (first | simp -implicitDefEqProofs only [syms, symx, seval, c61, hvw, hvu] | ((with_reducible first | apply forkD | apply forkB | apply forkN | apply forkNP | apply forkNot) <;> intro _) | with_reducible_and_instances refine ixi_at (hb.mono zi.inc) ds32 sz3 (by omega) hcr (fun p hp => ?_) | with_reducible_and_instances refine ld_one hp ag3 ?_ | with_reducible_and_instances refine ixp_at (hl.mono z.inc) ds84 sz90 (by omega) hx0 (fun p2 b2 hb2 hp2 => ?_) | with_reducible_and_instances refine fdr0 hp2 fa90_0 (fun q hq => ?_) | with_reducible_and_instances refine lda hq ag39 sz39 ?_)
  refine ok_derive (reasonsD l) goals w u _ (sw.lay _ _) ((hg.mono z.inc).lay _ _) (by unfold reasonsD; rw [List.length_map]; exact hn) (hr ha) hgl hgi hgp _ (fun hpl h' x => ?_) (fun hpl hfd h' x => ?_) (fun hpl hfd h' ws out x hN s => ?_)
  · ((skip); replace z := z.overW x (by (try simp only [lsz]); omega); rw [lay_nil h'])
    repeat' (first | simp -implicitDefEqProofs only [syms, symx, seval, c61] | ((with_reducible first | apply forkD | apply forkB | apply forkN | apply forkNP | apply forkNot) <;> intro _) | with_reducible_and_instances refine ixi_at (hb.mono zi.inc) ds32 sz3 (by omega) hcr (fun p hp => ?_) | with_reducible_and_instances refine ld_one hp ag3 ?_ | with_reducible_and_instances refine ixp_at (hl.mono z.inc) ds84 sz90 (by omega) hx0 (fun p2 b2 hb2 hp2 => ?_) | with_reducible_and_instances refine fdr0 hp2 fa90_0 (fun q hq => ?_) | with_reducible_and_instances refine lda hq ag39 sz39 ?_)
    exact h0k (fun hh => hpl hh.2) _ (z.upW _ _ (by omega))
  · ((skip); replace z := z.overW x (by (try simp only [lsz]); omega); rw [lay_nil h'])
    repeat' (first | simp -implicitDefEqProofs only [syms, symx, seval, c61] | ((with_reducible first | apply forkD | apply forkB | apply forkN | apply forkNP | apply forkNot) <;> intro _) | with_reducible_and_instances refine ixi_at (hb.mono zi.inc) ds32 sz3 (by omega) hcr (fun p hp => ?_) | with_reducible_and_instances refine ld_one hp ag3 ?_ | with_reducible_and_instances refine ixp_at (hl.mono z.inc) ds84 sz90 (by omega) hx0 (fun p2 b2 hb2 hp2 => ?_) | with_reducible_and_instances refine fdr0 hp2 fa90_0 (fun q hq => ?_) | with_reducible_and_instances refine lda hq ag39 sz39 ?_)
    exact h2k ha hpl hfd _ (z.upW _ _ (by omega))
  · ((skip); replace z := z.overW x (by (try simp only [lsz]); omega); rw [lay_nil h'])
    have hvs := vSelf ws
    repeat' (first | simp -implicitDefEqProofs only [syms, symx, seval, c61, hvs] | ((with_reducible first | apply forkD | apply forkB | apply forkN | apply forkNP | apply forkNot) <;> intro _) | with_reducible_and_instances refine ixi_at (hb.mono zi.inc) ds32 sz3 (by omega) hcr (fun p hp => ?_) | with_reducible_and_instances refine ld_one hp ag3 ?_ | with_reducible_and_instances refine ixp_at (hl.mono z.inc) ds84 sz90 (by omega) hx0 (fun p2 b2 hb2 hp2 => ?_) | with_reducible_and_instances refine fdr0 hp2 fa90_0 (fun q hq => ?_) | with_reducible_and_instances refine lda hq ag39 sz39 ?_)
    exact h3k ha hpl hfd _ ws out (z.upW _ _ (by omega)) hN (s.lay _ _)
theorem ok_proofWhole (l : List ReasonD) (goals : List AtomD) (v u : Value) (h : Heap) (hl : Sl Rep.reason h v l) (hg : Sl Rep.atom h u goals) (K : Value → Heap → Prop)
    (hk : ∀ h', Ext h h' → K (.bool true) h') : Ok Try.prog tab ov 11 [v, u] h K := by
  rw [lay_nil h]
  have z := Ext.refl h
  have hva := vSelf v
  have hvu := vSelf u
  have hlg := fun (hh : Heap) => hg.lenA ds23 hh
  have hlv := fun (hh : Heap) => hl.lenA ds24 hh
  refine Ok.into rfl tab_fn11 (bodyF N11) rfl (m := 202) rfl ?_
  simp -implicitDefEqProofs only [syms, symx, seval, c11, hva, hvu]
  refine Ok.over (g := trueA) rfl rfl ?_
  simp -implicitDefEqProofs only [syms, symx, seval, c11, hva, hvu]
  repeat' ((first | ((with_reducible first | apply forkD | apply forkB | apply forkN | apply forkNP | apply forkNot) <;> intro _) | ((with_reducible_and_instances apply unop_not); (· rfl)) | ((with_reducible refine ⟨z.grw.lay _ _, ?_⟩); (intro _ h' zz x _); (try simp only [lay_lay, List.append_nil] at x); (replace z := zz); (clear zz); rw [lay_nil h'])) <;> simp -implicitDefEqProofs only [syms, symx, seval, c11, hva, hvu])
  refine ok_lightReasonsS l v _ (hl.lay _ _) _ (fun hn hr h' x => ?_) (fun h' x => ?_)
  rotate_left
  · ((first | ((with_reducible refine KOpsX_call ?_ ?_ ?_); (· exact (by (try simp only [lsz]); have := z.size; omega)); (· first | exact x | simpa only [lla] using x)) | skip); replace z := z.overW x (by (try simp only [lsz]); omega); rw [lay_nil h'])
    repeat' (first | simp -implicitDefEqProofs only [syms, symx, seval, c11] | ((with_reducible first | apply forkD | apply forkB | apply forkN | apply forkNP | apply forkNot) <;> intro _) | ((with_reducible_and_instances apply unop_not); (· rfl)) | ((with_reducible refine ⟨z.grw.lay _ _, ?_⟩); (intro _ h' zz x _); (try simp only [lay_lay, List.append_nil] at x); (replace z := zz); (clear zz); rw [lay_nil h']))
    exact hk _ (z.upW _ _ (by omega))
  ((first | ((with_reducible refine KOpsX_call ?_ ?_ ?_); (· exact (by (try simp only [lsz]); have := z.size; omega)); (· first | exact x | simpa only [lla] using x)) | skip); replace z := z.overW x (by (try simp only [lsz]); omega); rw [lay_nil h'])
  repeat' (first | simp -implicitDefEqProofs only [syms, symx, seval, c11, hvu] | ((with_reducible first | apply forkD | apply forkB | apply forkN | apply forkNP | apply forkNot) <;> intro _) | ((with_reducible_and_instances apply unop_not); (· rfl)) | ((with_reducible refine ⟨z.grw.lay _ _, ?_⟩); (intro _ h' zz x _); (try simp only [lay_lay, List.append_nil] at x); (replace z := zz); (clear zz); rw [lay_nil h']))
  refine ok_lights goals u 6 _ ((hg.mono z.inc).lay _ _) _ (fun e3 e4 h' x => ?_) (fun h' x => ?_)
  rotate_left
  · ((first | ((with_reducible refine KOpsX_call ?_ ?_ ?_); (· exact (by (try simp only [lsz]); have := z.size; omega)); (· first | exact x | simpa only [lla] using x)) | skip); replace z := z.overW x (by (try simp only [lsz]); omega); rw [lay_nil h'])
    repeat' (first | simp -implicitDefEqProofs only [syms, symx, seval, c11] | ((with_reducible first | apply forkD | apply forkB | apply forkN | apply forkNP | apply forkNot) <;> intro _) | ((with_reducible_and_instances apply unop_not); (· rfl)) | ((with_reducible refine ⟨z.grw.lay _ _, ?_⟩); (intro _ h' zz x _); (try simp only [lay_lay, List.append_nil] at x); (replace z := zz); (clear zz); rw [lay_nil h']))
    exact hk _ (z.upW _ _ (by omega))
  ((first | ((with_reducible refine KOpsX_call ?_ ?_ ?_); (· exact (by (try simp only [lsz]); have := z.size; omega)); (· first | exact x | simpa only [lla] using x)) | skip); replace z := z.overW x (by (try simp only [lsz]); omega); rw [lay_nil h'])
  repeat' (first | simp -implicitDefEqProofs only [syms, symx, seval, c11, hvu] | ((with_reducible first | apply forkD | apply forkB | apply forkN | apply forkNP | apply forkNot) <;> intro _) | ((with_reducible_and_instances apply unop_not); (· rfl)) | ((with_reducible refine ⟨z.grw.lay _ _, ?_⟩); (intro _ h' zz x _); (try simp only [lay_lay, List.append_nil] at x); (replace z := zz); (clear zz); rw [lay_nil h']))
  refine ok_plainS goals u _ ((hg.mono z.inc).lay _ _) (by omega) e4 _ (fun hp h' x => ?_) (fun h' x => ?_)
  rotate_left
  · ((first | ((with_reducible refine KOpsX_call ?_ ?_ ?_); (· exact (by (try simp only [lsz]); have := z.size; omega)); (· first | exact x | simpa only [lla] using x)) | skip); replace z := z.overW x (by (try simp only [lsz]); omega); rw [lay_nil h'])
    repeat' (first | simp -implicitDefEqProofs only [syms, symx, seval, c11] | ((with_reducible first | apply forkD | apply forkB | apply forkN | apply forkNP | apply forkNot) <;> intro _) | ((with_reducible_and_instances apply unop_not); (· rfl)) | ((with_reducible refine ⟨z.grw.lay _ _, ?_⟩); (intro _ h' zz x _); (try simp only [lay_lay, List.append_nil] at x); (replace z := zz); (clear zz); rw [lay_nil h']))
    exact hk _ (z.upW _ _ (by omega))
  ((first | ((with_reducible refine KOpsX_call ?_ ?_ ?_); (· exact (by (try simp only [lsz]); have := z.size; omega)); (· first | exact x | simpa only [lla] using x)) | skip); replace z := z.overW x (by (try simp only [lsz]); omega); rw [lay_nil h'])
  repeat' (first | simp -implicitDefEqProofs only [syms, symx, seval, c11, hva, hvu, hlg] | ((with_reducible first | apply forkD | apply forkB | apply forkN | apply forkNP | apply forkNot) <;> intro _) | ((with_reducible_and_instances apply unop_not); (· rfl)) | ((with_reducible refine ⟨z.grw.lay _ _, ?_⟩); (intro _ h' zz x _); (try simp only [lay_lay, List.append_nil] at x); (replace z := zz); (clear zz); rw [lay_nil h']))
  refine ok_derive l goals v u _ ((hl.mono z.inc).lay _ _) ((hg.mono z.inc).lay _ _) hn hr (by omega) e4 hp _ (fun hpl h' x => ?_) (fun hpl hfd h' x => ?_) (fun hpl hfd h' ws out x hN sw => ?_)
  · ((first | ((with_reducible refine KOpsX_call ?_ ?_ ?_); (· exact (by (try simp only [lsz]); have := z.size; omega)); (· first | exact x | simpa only [lla] using x)) | skip); replace z := z.overW x (by (try simp only [lsz]); omega); rw [lay_nil h'])
    repeat' (first | simp -implicitDefEqProofs only [syms, symx, seval, c11] | ((with_reducible first | apply forkD | apply forkB | apply forkN | apply forkNP | apply forkNot) <;> intro _) | ((with_reducible_and_instances apply unop_not); (· rfl)) | ((with_reducible refine ⟨z.grw.lay _ _, ?_⟩); (intro _ h' zz x _); (try simp only [lay_lay, List.append_nil] at x); (replace z := zz); (clear zz); rw [lay_nil h']))
    exact hk _ (z.upW _ _ (by omega))
  · ((first | ((with_reducible refine KOpsX_call ?_ ?_ ?_); (· exact (by (try simp only [lsz]); have := z.size; omega)); (· first | exact x | simpa only [lla] using x)) | skip); replace z := z.overW x (by (try simp only [lsz]); omega); rw [lay_nil h'])
    repeat' (first | simp -implicitDefEqProofs only [syms, symx, seval, c11] | ((with_reducible first | apply forkD | apply forkB | apply forkN | apply forkNP | apply forkNot) <;> intro _) | ((with_reducible_and_instances apply unop_not); (· rfl)) | ((with_reducible refine ⟨z.grw.lay _ _, ?_⟩); (intro _ h' zz x _); (try simp only [lay_lay, List.append_nil] at x); (replace z := zz); (clear zz); rw [lay_nil h']))
    exact hk _ (z.upW _ _ (by omega))
  ((first | ((with_reducible refine KOpsX_call ?_ ?_ ?_); (· exact (by (try simp only [lsz]); have := z.size; omega)); (· first | exact x | simpa only [lla] using x)) | skip); replace z := z.overW x (by (try simp only [lsz]); omega); rw [lay_nil h'])
  have hvw := vSelf ws
  have hls := fun (hh : Heap) => sw.lenA ds84 hh
  have hkl : (keptD l out).length ≤ 40 := by have := kept_small (l := l) (out := out); omega
  have hdl := derD_length (keptD l out)
  have hdc := der_cites (out := out) hr
  have hkp := kept_placed hpl hN hr
  repeat' (first | simp -implicitDefEqProofs only [syms, symx, seval, c11, hvw, hva, hvu, hlg] | ((with_reducible first | apply forkD | apply forkB | apply forkN | apply forkNP | apply forkNot) <;> intro _) | ((with_reducible_and_instances apply unop_not); (· rfl)) | ((with_reducible refine ⟨z.grw.lay _ _, ?_⟩); (intro _ h' zz x _); (try simp only [lay_lay, List.append_nil] at x); (try replace sw := sw.over x); (replace z := zz); (clear zz); rw [lay_nil h']))
  obtain ⟨I1, hI1⟩ : ∃ I : Nat → Env → Heap → Prop, I = (fun n e h' => ∃ (i : Nat) (h1 : Heap), h' = h1.lay [] h1.low ∧ Ext h h1 ∧ (n = goals.length - i ∧ i ≤ goals.length ∧ Sl Rep.step h1 ws (derD (keptD l out))) ∧ ∃ J : Nat → Value, e = (v :: u :: jr J 2 3 (ws :: J 6 :: .int .i64 i :: jr J 8 196 ([])))) := ⟨_, rfl⟩
  refine W_loopN I1 _ (by rw [hI1]; exact ⟨0, _, rfl, z, ⟨rfl, by omega, sw⟩, junk (by kernel_rfl)⟩) ?_
  intro n e h' hin
  rw [hI1] at hin
  obtain ⟨i, h1', rfl, z, hinv, J, rfl⟩ := hin
  clear sw
  obtain ⟨rfl, hi, sw⟩ := hinv
  have hwi : IntKind.i64.wrap ((i : Int) + 1) = ((i + 1 : Nat) : Int) := by rw [wrap_i64 (by omega) (by omega)]; omega
  simp -implicitDefEqProofs only [syms, symx, seval, c11, hvu, hlg]
  refine forkD (fun hlt1 => ?_) (fun hlt1 => ?_)
  · obtain ⟨y, hy, hy'⟩ := amElem (l := goals) (i := i) (by omega)
    repeat' (first | simp -implicitDefEqProofs only [syms, symx, seval, c11, hvw, hvu] | ((with_reducible first | apply forkD | apply forkB | apply forkN | apply forkNP | apply forkNot) <;> intro _) | with_reducible_and_instances refine ixa_at (hg.mono z.inc) ds23 sz39 (by omega) hy (fun p hpp => ?_) | with_reducible_and_instances refine lda hpp ag39 sz39 ?_ | ((with_reducible_and_instances apply unop_not); (· rfl)) | ((with_reducible refine ⟨z.grw.lay _ _, ?_⟩); (intro _ h' zz x _); (try simp only [lay_lay, List.append_nil] at x); (try replace sw := sw.over x); (replace z := zz); (clear zz); rw [lay_nil h']))
    refine ok_last _ y ws _ (sw.lay _ _) (by omega) _ (fun h' x => ?_)
    ((first | ((with_reducible refine KOpsX_call ?_ ?_ ?_); (· exact (by (try simp only [lsz]); have := z.size; omega)); (· first | exact x | simpa only [lla] using x)) | skip); replace z := z.overW x (by (try simp only [lsz]); omega); (try replace sw := sw.over x); rw [lay_nil h'])
    have hge : 0 ≤ lastD (derD (keptD l out)) y := by
      have hym := List.mem_of_getElem? hy'
      obtain ⟨i0, _, _, r2, g1, g2, _⟩ := findR (hfd y hym)
      obtain ⟨j, s2, f1, f2⟩ := der_mem (out := out) (List.mem_map.2 ⟨r2, List.mem_of_getElem? g1, g2⟩) (hN.hgoals y hym)
      exact last_ge f1 f2
    simp -implicitDefEqProofs only [syms, symx, seval, c11]
    refine forkD (fun hx => absurd hx (by omega)) (fun _ => ?_)
    repeat' (first | simp -implicitDefEqProofs only [syms, symx, seval, c11] | ((with_reducible first | apply forkD | apply forkB | apply forkN | apply forkNP | apply forkNot) <;> intro _) | with_reducible_and_instances refine ixa_at (hg.mono z.inc) ds23 sz39 (by omega) hy (fun p hpp => ?_) | with_reducible_and_instances refine lda hpp ag39 sz39 ?_ | ((with_reducible_and_instances apply unop_not); (· rfl)) | ((with_reducible refine ⟨z.grw.lay _ _, ?_⟩); (intro _ h' zz x _); (try simp only [lay_lay, List.append_nil] at x); (try replace sw := sw.over x); (replace z := zz); (clear zz); rw [lay_nil h']))
    rw [hwi]
    (rw [hI1]; with_reducible refine loopN_normal (m := _) ?_ ⟨i + 1, _, rfl, z, ⟨rfl, by omega, sw⟩, junk (by kernel_rfl)⟩; omega)
  repeat' (first | simp -implicitDefEqProofs only [syms, symx, seval, c11, hvw, hls] | ((with_reducible first | apply forkD | apply forkB | apply forkN | apply forkNP | apply forkNot) <;> intro _) | with_reducible_and_instances refine ixa_at (hg.mono z.inc) ds23 sz39 (by omega) hy (fun p hpp => ?_) | with_reducible_and_instances refine lda hpp ag39 sz39 ?_ | ((with_reducible_and_instances apply unop_not); (· rfl)) | ((with_reducible refine ⟨z.grw.lay _ _, ?_⟩); (intro _ h' zz x _); (try simp only [lay_lay, List.append_nil] at x); (try replace sw := sw.over x); (replace z := zz); (clear zz); rw [lay_nil h']))
  clear hI1 hwi hi hlt1
  obtain ⟨I2, hI2⟩ : ∃ I : Nat → Env → Heap → Prop, I = (fun n e h' => ∃ (i : Nat) (h1 : Heap), h' = h1.lay [] h1.low ∧ Ext h h1 ∧ (n = (derD (keptD l out)).length - i ∧ i ≤ (derD (keptD l out)).length ∧ Sl Rep.step h1 ws (derD (keptD l out))) ∧ ∃ J : Nat → Value, e = (v :: u :: jr J 2 3 (ws :: jr J 6 2 (.int .i64 i :: jr J 9 195 ([]))))) := ⟨_, rfl⟩
  refine W_loopN I2 _ (by rw [hI2]; exact ⟨0, _, rfl, z, ⟨rfl, by omega, sw⟩, junk (by kernel_rfl)⟩) ?_
  intro n e h' hin
  rw [hI2] at hin
  obtain ⟨i, h1', rfl, z, hinv, J, rfl⟩ := hin
  clear sw
  obtain ⟨rfl, hi, sw⟩ := hinv
  have hwi : IntKind.i64.wrap ((i : Int) + 1) = ((i + 1 : Nat) : Int) := by rw [wrap_i64 (by omega) (by omega)]; omega
  simp -implicitDefEqProofs only [syms, symx, seval, c11, hvw, hls]
  refine forkD (fun hlt1 => ?_) (fun hlt1 => ?_)
  rotate_left
  · repeat' (first | simp -implicitDefEqProofs only [syms, symx, seval, c11, hvw] | ((with_reducible first | apply forkD | apply forkB | apply forkN | apply forkNP | apply forkNot) <;> intro _) | with_reducible_and_instances refine ixa_at (hg.mono z.inc) ds23 sz39 (by omega) hy (fun p hpp => ?_) | with_reducible_and_instances refine lda hpp ag39 sz39 ?_ | ((with_reducible_and_instances apply unop_not); (· rfl)) | ((with_reducible refine ⟨z.grw.lay _ _, ?_⟩); (intro _ h' zz x _); (try simp only [lay_lay, List.append_nil] at x); (try replace sw := sw.over x); (replace z := zz); (clear zz); rw [lay_nil h']))
    clear hI2
    refine ok_reasons _ ws _ (sw.lay _ _) (by omega) hdc _ (fun ha h' rv x sr => ?_) (fun ha h' x => absurd (ahead_der hkp) ha)
    rw [reasons_der hkp] at sr
    ((first | ((with_reducible refine KOpsX_call ?_ ?_ ?_); (· exact (by (try simp only [lsz]); have := z.size; omega)); (· first | exact x | simpa only [lla] using x)) | skip); replace z := z.overW x (by (try simp only [lsz]); omega); (try replace sw := sw.over x); rw [lay_nil h'])
    have hvr := vSelf rv
    repeat' (first | simp -implicitDefEqProofs only [syms, symx, seval, c11, hvr, hvu] | ((with_reducible first | apply forkD | apply forkB | apply forkN | apply forkNP | apply forkNot) <;> intro _) | with_reducible_and_instances refine ixa_at (hg.mono z.inc) ds23 sz39 (by omega) hy (fun p hpp => ?_) | with_reducible_and_instances refine lda hpp ag39 sz39 ?_ | ((with_reducible_and_instances apply unop_not); (· rfl)) | ((with_reducible refine ⟨z.grw.lay _ _, ?_⟩); (intro _ h' zz x _); (try simp only [lay_lay, List.append_nil] at x); (try replace sw := sw.over x); (try replace sr := sr.over x); (replace z := zz); (clear zz); rw [lay_nil h']))
    refine ok_derive (keptD l out) goals rv u _ (sr.lay _ _) ((hg.mono z.inc).lay _ _) (by omega) (fun r hrr => hr r (List.mem_filter.1 hrr).1) (by omega) e4 hp _ (fun hpl2 h' x => absurd hkp hpl2) (fun _ hfd2 h' x => ?_) (fun _ _ h' wa out2 x hN2 swa => ?_)
    · exfalso
      obtain ⟨g, hg1, hg2⟩ := hfd2
      rw [kept_has hN hfd g hg1] at hg2
      cases hg2
    have heq := hN2.eq (needs_kept hpl hN hr)
    subst heq
    rw [kept_idem] at swa
    ((first | ((with_reducible refine KOpsX_call ?_ ?_ ?_); (· exact (by (try simp only [lsz]); have := z.size; omega)); (· first | exact x | simpa only [lla] using x)) | skip); replace z := z.overW x (by (try simp only [lsz]); omega); (try replace sw := sw.over x); (try replace sr := sr.over x); rw [lay_nil h'])
    have hvwa := vSelf wa
    repeat' (first | simp -implicitDefEqProofs only [syms, symx, seval, c11, hvwa, hvw, hvu] | ((with_reducible first | apply forkD | apply forkB | apply forkN | apply forkNP | apply forkNot) <;> intro _) | with_reducible_and_instances refine ixa_at (hg.mono z.inc) ds23 sz39 (by omega) hy (fun p hpp => ?_) | with_reducible_and_instances refine lda hpp ag39 sz39 ?_ | ((with_reducible_and_instances apply unop_not); (· rfl)) | ((with_reducible refine ⟨z.grw.lay _ _, ?_⟩); (intro _ h' zz x _); (try simp only [lay_lay, List.append_nil] at x); (try replace sw := sw.over x); (try replace swa := swa.over x); (replace z := zz); (clear zz); rw [lay_nil h']))
    have hrd := reasons_der hkp
    refine ok_trim _ goals ws u _ (sw.lay _ _) ((hg.mono z.inc).lay _ _) (by omega) hdc (fun _ r hrr => by rw [hrd] at hrr; exact hr r (List.mem_filter.1 hrr).1) (by omega) e4 hp _ (fun hno h' x => absurd ⟨ahead_der hkp, by rw [hrd]; exact hkp⟩ hno) (fun _ _ hfd2 h' x => ?_) (fun _ _ _ h' wt out3 x hN3 swt => ?_)
    · exfalso
      obtain ⟨g, hg1, hg2⟩ := hfd2
      rw [hrd, kept_has hN hfd g hg1] at hg2
      cases hg2
    rw [hrd] at hN3 swt
    have heq := hN3.eq (needs_kept hpl hN hr)
    subst heq
    rw [kept_idem] at swt
    ((first | ((with_reducible refine KOpsX_call ?_ ?_ ?_); (· exact (by (try simp only [lsz]); have := z.size; omega)); (· first | exact x | simpa only [lla] using x)) | skip); replace z := z.overW x (by (try simp only [lsz]); omega); (try replace sw := sw.over x); (try replace swa := swa.over x); rw [lay_nil h'])
    have hvwt := vSelf wt
    repeat' (first | simp -implicitDefEqProofs only [syms, symx, seval, c11, hvwt, hvwa, hvw] | ((with_reducible first | apply forkD | apply forkB | apply forkN | apply forkNP | apply forkNot) <;> intro _) | with_reducible_and_instances refine ixa_at (hg.mono z.inc) ds23 sz39 (by omega) hy (fun p hpp => ?_) | with_reducible_and_instances refine lda hpp ag39 sz39 ?_ | ((with_reducible_and_instances apply unop_not); (· rfl)) | ((with_reducible refine ⟨z.grw.lay _ _, ?_⟩); (intro _ h' zz x _); (try simp only [lay_lay, List.append_nil] at x); (try replace sw := sw.over x); (try replace swa := swa.over x); (try replace swt := swt.over x); (replace z := zz); (clear zz); rw [lay_nil h']))
    refine ok_proofSame _ _ wa ws _ (swa.lay _ _) (sw.lay _ _) (by omega) hdc _ (fun h' x => ?_)
    ((first | ((with_reducible refine KOpsX_call ?_ ?_ ?_); (· exact (by (try simp only [lsz]); have := z.size; omega)); (· first | exact x | simpa only [lla] using x)) | skip); replace z := z.overW x (by (try simp only [lsz]); omega); (try replace sw := sw.over x); (try replace swa := swa.over x); (try replace swt := swt.over x); rw [lay_nil h'])
    repeat' (first | simp -implicitDefEqProofs only [syms, symx, seval, c11, decide_true, hvwt, hvwa, hvw] | ((with_reducible first | apply forkD | apply forkB | apply forkN | apply forkNP | apply forkNot) <;> intro _) | with_reducible_and_instances refine ixa_at (hg.mono z.inc) ds23 sz39 (by omega) hy (fun p hpp => ?_) | with_reducible_and_instances refine lda hpp ag39 sz39 ?_ | ((with_reducible_and_instances apply unop_not); (· rfl)) | ((with_reducible refine ⟨z.grw.lay _ _, ?_⟩); (intro _ h' zz x _); (try simp only [lay_lay, List.append_nil] at x); (try replace sw := sw.over x); (try replace swa := swa.over x); (try replace swt := swt.over x); (replace z := zz); (clear zz); rw [lay_nil h']))
    refine ok_proofSame _ _ wt ws _ (swt.lay _ _) (sw.lay _ _) (by omega) hdc _ (fun h' x => ?_)
    ((first | ((with_reducible refine KOpsX_call ?_ ?_ ?_); (· exact (by (try simp only [lsz]); have := z.size; omega)); (· first | exact x | simpa only [lla] using x)) | skip); replace z := z.overW x (by (try simp only [lsz]); omega); (try replace sw := sw.over x); (try replace swa := swa.over x); (try replace swt := swt.over x); rw [lay_nil h'])
    repeat' (first | simp -implicitDefEqProofs only [syms, symx, seval, c11, decide_true] | ((with_reducible first | apply forkD | apply forkB | apply forkN | apply forkNP | apply forkNot) <;> intro _) | with_reducible_and_instances refine ixa_at (hg.mono z.inc) ds23 sz39 (by omega) hy (fun p hpp => ?_) | with_reducible_and_instances refine lda hpp ag39 sz39 ?_ | ((with_reducible_and_instances apply unop_not); (· rfl)) | ((with_reducible refine ⟨z.grw.lay _ _, ?_⟩); (intro _ h' zz x _); (try simp only [lay_lay, List.append_nil] at x); (try replace sw := sw.over x); (try replace swa := swa.over x); (try replace swt := swt.over x); (replace z := zz); (clear zz); rw [lay_nil h']))
    exact hk _ (z.upW _ _ (by omega))
  obtain ⟨y, hy, hy'⟩ := amElem (l := derD (keptD l out)) (i := i) (by omega)
  have hyc := hdc y (List.mem_of_getElem? hy')
  repeat' (first | simp -implicitDefEqProofs only [syms, symx, seval, c11, hvu, hlg] | ((with_reducible first | apply forkD | apply forkB | apply forkN | apply forkNP | apply forkNot) <;> intro _) | with_reducible_and_instances refine ixa_at (hg.mono z.inc) ds23 sz39 (by omega) hy (fun p hpp => ?_) | with_reducible_and_instances refine lda hpp ag39 sz39 ?_ | ((with_reducible_and_instances apply unop_not); (· rfl)) | ((with_reducible refine ⟨z.grw.lay _ _, ?_⟩); (intro _ h' zz x _); (try simp only [lay_lay, List.append_nil] at x); (try replace sw := sw.over x); (try replace swa := swa.over x); (try replace swt := swt.over x); (replace z := zz); (clear zz); rw [lay_nil h']))
  obtain ⟨I3, hI3⟩ : ∃ I : Nat → Env → Heap → Prop, I = (fun n e h' => ∃ (k : Nat) (b : Bool) (h1 : Heap), h' = h1.lay [] h1.low ∧ Ext h h1 ∧ (n = goals.length - k ∧ k ≤ goals.length ∧ Sl Rep.step h1 ws (derD (keptD l out)) ∧ (∀ g ∈ goals.take k, g = y.re.atom → b = true)) ∧ ∃ J : Nat → Value, e = (v :: u :: jr J 2 3 (ws :: jr J 6 2 (.int .i64 i :: .bool b :: .int .i64 k :: jr J 11 193 ([]))))) := ⟨_, rfl⟩
  refine W_loopN I3 _ (by rw [hI3]; exact ⟨0, false, _, rfl, z, ⟨rfl, by omega, sw, by simp⟩, junk (by kernel_rfl)⟩) ?_
  intro n e h' hin
  rw [hI3] at hin
  obtain ⟨k, b, h1', rfl, z, hinv, J, rfl⟩ := hin
  clear sw
  obtain ⟨rfl, hk1, sw, hb1⟩ := hinv
  have hwk : IntKind.i64.wrap ((k : Int) + 1) = ((k + 1 : Nat) : Int) := by rw [wrap_i64 (by omega) (by omega)]; omega
  simp -implicitDefEqProofs only [syms, symx, seval, c11, hvu, hlg]
  refine forkD (fun hlt2 => ?_) (fun hlt2 => ?_)
  · obtain ⟨g, hg1, hg1'⟩ := amElem (l := goals) (i := k) (by omega)
    cases b
    · simp -implicitDefEqProofs only [syms, symx, seval, c11, hvw, hvu]
      repeat' ((first | with_reducible refine drawN (by simp only [c11]) (z.upW _ _ (by omega)) ?_ | ((with_reducible first | apply forkD | apply forkB | apply forkN | apply forkNP | apply forkNot) <;> intro _) | with_reducible_and_instances refine ixa_at (hg.mono z.inc) ds23 sz39 (by omega) hg1 (fun p hpp => ?_) | with_reducible_and_instances refine lda hpp ag39 sz39 ?_ | with_reducible_and_instances refine ixp_at sw ds84 sz90 (by omega) hy (fun p2 b2 hb2 hq2 => ?_) | with_reducible_and_instances refine fdr0 hq2 fa90_0 (fun q3 hq3 => ?_) | with_reducible_and_instances refine lda hq3 ag39 sz39 ?_ | ((with_reducible_and_instances apply unop_not); (· rfl)) | ((with_reducible refine ⟨z.grw.lay _ _, ?_⟩); (intro _ h' zz x _); (try simp only [lay_lay, List.append_nil] at x); (try replace sw := sw.over x); (replace z := zz); (clear zz); rw [lay_nil h'])) <;> simp -implicitDefEqProofs only [syms, symx, seval, c11, hvw, hvu, bin_atomE])
      all_goals rw [hwk]
      · (rw [hI3]; with_reducible refine loopN_normal (m := _) ?_ ⟨k + 1, true, _, rfl, z, ⟨rfl, by omega, sw, fun _ _ _ => rfl⟩, junk (by kernel_rfl)⟩; omega)
      · have hne : ¬ g = y.re.atom := by assumption
        (rw [hI3]; with_reducible refine loopN_normal (m := _) ?_ ⟨k + 1, false, _, rfl, z, ⟨rfl, by omega, sw, take_all (i := k) (P := fun g => g = y.re.atom → false = true) hg1' hb1 (fun e => absurd e hne)⟩, junk (by kernel_rfl)⟩; omega)
    · simp -implicitDefEqProofs only [syms, symx, seval, c11, hvw, hvu]
      repeat' ((first | with_reducible refine drawN (by simp only [c11]) (z.upW _ _ (by omega)) ?_ | ((with_reducible first | apply forkD | apply forkB | apply forkN | apply forkNP | apply forkNot) <;> intro _) | with_reducible_and_instances refine ixa_at (hg.mono z.inc) ds23 sz39 (by omega) hg1 (fun p hpp => ?_) | with_reducible_and_instances refine lda hpp ag39 sz39 ?_ | with_reducible_and_instances refine ixp_at sw ds84 sz90 (by omega) hy (fun p2 b2 hb2 hq2 => ?_) | with_reducible_and_instances refine fdr0 hq2 fa90_0 (fun q3 hq3 => ?_) | with_reducible_and_instances refine lda hq3 ag39 sz39 ?_ | ((with_reducible_and_instances apply unop_not); (· rfl)) | ((with_reducible refine ⟨z.grw.lay _ _, ?_⟩); (intro _ h' zz x _); (try simp only [lay_lay, List.append_nil] at x); (try replace sw := sw.over x); (replace z := zz); (clear zz); rw [lay_nil h'])) <;> simp -implicitDefEqProofs only [syms, symx, seval, c11, hvw, hvu, bin_atomE])
      rw [hwk]
      (rw [hI3]; with_reducible refine loopN_normal (m := _) ?_ ⟨k + 1, true, _, rfl, z, ⟨rfl, by omega, sw, fun _ _ _ => rfl⟩, junk (by kernel_rfl)⟩; omega)
  rw [List.take_of_length_le (by omega)] at hb1
  repeat' (first | simp -implicitDefEqProofs only [syms, symx, seval, c11, hvw, hls, hwi] | ((with_reducible first | apply forkD | apply forkB | apply forkN | apply forkNP | apply forkNot) <;> intro _) | with_reducible_and_instances refine ixa_at (hg.mono z.inc) ds23 sz39 (by omega) hg1 (fun p hpp => ?_) | with_reducible_and_instances refine lda hpp ag39 sz39 ?_ | with_reducible_and_instances refine ixp_at sw ds84 sz90 (by omega) hy (fun p2 b2 hb2 hq2 => ?_) | with_reducible_and_instances refine fdr0 hq2 fa90_0 (fun q3 hq3 => ?_) | with_reducible_and_instances refine lda hq3 ag39 sz39 ?_ | ((with_reducible_and_instances apply unop_not); (· rfl)) | ((with_reducible refine ⟨z.grw.lay _ _, ?_⟩); (intro _ h' zz x _); (try simp only [lay_lay, List.append_nil] at x); (try replace sw := sw.over x); (replace z := zz); (clear zz); rw [lay_nil h']))
  clear hI3 hwk hk1 hlt2
  obtain ⟨I4, hI4⟩ : ∃ I : Nat → Env → Heap → Prop, I = (fun n e h' => ∃ (j : Nat) (b : Bool) (h1 : Heap), h' = h1.lay [] h1.low ∧ Ext h h1 ∧ (n = (derD (keptD l out)).length - j ∧ i + 1 ≤ j ∧ j ≤ (derD (keptD l out)).length ∧ Sl Rep.step h1 ws (derD (keptD l out)) ∧ (∀ g ∈ goals, g = y.re.atom → b = true) ∧ (∀ (j2 : Nat) (x : StepD), i < j2 → j2 < j → (derD (keptD l out))[j2]? = some x → (i : Int) ∈ x.cites → b = true)) ∧ ∃ J : Nat → Value, e = (v :: u :: jr J 2 3 (ws :: jr J 6 2 (.int .i64 i :: .bool b :: J 10 :: .int .i64 j :: jr J 12 192 ([]))))) := ⟨_, rfl⟩
  refine W_loopN I4 _ (by rw [hI4]; exact ⟨i + 1, b, _, rfl, z, ⟨rfl, by omega, by omega, sw, hb1, fun j2 x h1 h2 => by omega⟩, junk (by kernel_rfl)⟩) ?_
  intro n e h' hin
  rw [hI4] at hin
  obtain ⟨j, b, h1', rfl, z, hinv, J, rfl⟩ := hin
  clear sw hb1
  obtain ⟨rfl, hj0, hj1, sw, hb1, hb2⟩ := hinv
  have hwj : IntKind.i64.wrap ((j : Int) + 1) = ((j + 1 : Nat) : Int) := by rw [wrap_i64 (by omega) (by omega)]; omega
  simp -implicitDefEqProofs only [syms, symx, seval, c11, hvw, hls]
  refine forkD (fun hlt2 => ?_) (fun hlt2 => ?_)
  · obtain ⟨w, hw1, hw1'⟩ := amElem (l := derD (keptD l out)) (i := j) (by omega)
    have hwc := hdc w (List.mem_of_getElem? hw1')
    simp -implicitDefEqProofs only [syms, symx, seval, c11]
    obtain ⟨I5, hI5⟩ : ∃ I : Nat → Env → Heap → Prop, I = (fun n e h' => ∃ (m : Nat) (b : Bool) (h1 : Heap), h' = h1.lay [] h1.low ∧ Ext h h1 ∧ (n = w.cites.length - m ∧ m ≤ w.cites.length ∧ Sl Rep.step h1 ws (derD (keptD l out)) ∧ (∀ g ∈ goals, g = y.re.atom → b = true) ∧ (∀ (j2 : Nat) (x : StepD), i < j2 → j2 < j → (derD (keptD l out))[j2]? = some x → (i : Int) ∈ x.cites → b = true) ∧ (∀ c ∈ w.cites.take m, c = (i : Int) → b = true)) ∧ ∃ J : Nat → Value, e = (v :: u :: jr J 2 3 (ws :: jr J 6 2 (.int .i64 i :: .bool b :: J 10 :: .int .i64 j :: .int .i64 m :: jr J 13 191 ([]))))) := ⟨_, rfl⟩
    refine W_loopN I5 _ (by rw [hI5]; exact ⟨0, b, _, rfl, z, ⟨rfl, by omega, sw, hb1, hb2, by simp⟩, junk (by kernel_rfl)⟩) ?_
    intro n e h' hin
    rw [hI5] at hin
    obtain ⟨m, b, h1', rfl, z, hinv, J, rfl⟩ := hin
    clear sw hb1 hb2
    obtain ⟨rfl, hm1, sw, hb1, hb2, hb3⟩ := hinv
    have hwm : IntKind.i64.wrap ((m : Int) + 1) = ((m + 1 : Nat) : Int) := by rw [wrap_i64 (by omega) (by omega)]; omega
    repeat' (first | simp -implicitDefEqProofs only [syms, symx, seval, c11, hvw] | ((with_reducible first | apply forkD | apply forkB | apply forkN | apply forkNP | apply forkNot) <;> intro _) | with_reducible_and_instances refine ixp_at sw ds84 sz90 (by omega) hw1 (fun p2 b2 hbb hq2 => ?_) | with_reducible_and_instances refine fdr2 hq2 fa90_2 (fun q6 hq6 => ?_) | with_reducible_and_instances refine ld_one hq6 ag32 ?_ | with_reducible_and_instances refine ln_rule hbb ds32 ?_ | ((with_reducible_and_instances apply unop_not); (· rfl)) | ((with_reducible refine ⟨z.grw.lay _ _, ?_⟩); (intro _ h' zz x _); (try simp only [lay_lay, List.append_nil] at x); (try replace sw := sw.over x); (replace z := zz); (clear zz); rw [lay_nil h']))
    · obtain ⟨c, hc1, hc1'⟩ := amElem (l := w.cites) (i := m) (by omega)
      cases b
      · repeat' (first | simp -implicitDefEqProofs only [syms, symx, seval, c11, hvw] | with_reducible refine drawN (by simp only [c11]) (z.upW _ _ (by omega)) ?_ | ((with_reducible first | apply forkD | apply forkB | apply forkN | apply forkNP | apply forkNot) <;> intro _) | with_reducible_and_instances refine ixp_at sw ds84 sz90 (by omega) hw1 (fun p2 b2 hbb hq2 => ?_) | with_reducible_and_instances refine fdr2 hq2 fa90_2 (fun q6 hq6 => ?_) | with_reducible_and_instances refine ld_one hq6 ag32 ?_ | with_reducible_and_instances refine ixi_at hbb ds32 sz3 (by omega) hc1 (fun p3 hp3 => ?_) | with_reducible_and_instances refine ld_one hp3 ag3 ?_ | ((with_reducible_and_instances apply unop_not); (· rfl)) | ((with_reducible refine ⟨z.grw.lay _ _, ?_⟩); (intro _ h' zz x _); (try simp only [lay_lay, List.append_nil] at x); (try replace sw := sw.over x); (replace z := zz); (clear zz); rw [lay_nil h']))
        all_goals rw [hwm]
        · (rw [hI5]; with_reducible refine loopN_normal (m := _) ?_ ⟨m + 1, true, _, rfl, z, ⟨rfl, by omega, sw, fun _ _ _ => rfl, fun _ _ _ _ _ _ => rfl, fun _ _ _ => rfl⟩, junk (by kernel_rfl)⟩; omega)
        · have hne : ¬ c = (i : Int) := by assumption
          (rw [hI5]; with_reducible refine loopN_normal (m := _) ?_ ⟨m + 1, false, _, rfl, z, ⟨rfl, by omega, sw, hb1, hb2, take_all (i := m) (P := fun c => c = (i : Int) → false = true) hc1' hb3 (fun e => absurd e hne)⟩, junk (by kernel_rfl)⟩; omega)
      · repeat' (first | simp -implicitDefEqProofs only [syms, symx, seval, c11, hvw] | with_reducible refine drawN (by simp only [c11]) (z.upW _ _ (by omega)) ?_ | ((with_reducible first | apply forkD | apply forkB | apply forkN | apply forkNP | apply forkNot) <;> intro _) | with_reducible_and_instances refine ixp_at sw ds84 sz90 (by omega) hw1 (fun p2 b2 hbb hq2 => ?_) | with_reducible_and_instances refine fdr2 hq2 fa90_2 (fun q6 hq6 => ?_) | with_reducible_and_instances refine ld_one hq6 ag32 ?_ | with_reducible_and_instances refine ixi_at hbb ds32 sz3 (by omega) hc1 (fun p3 hp3 => ?_) | with_reducible_and_instances refine ld_one hp3 ag3 ?_ | ((with_reducible_and_instances apply unop_not); (· rfl)) | ((with_reducible refine ⟨z.grw.lay _ _, ?_⟩); (intro _ h' zz x _); (try simp only [lay_lay, List.append_nil] at x); (try replace sw := sw.over x); (replace z := zz); (clear zz); rw [lay_nil h']))
        rw [hwm]
        (rw [hI5]; with_reducible refine loopN_normal (m := _) ?_ ⟨m + 1, true, _, rfl, z, ⟨rfl, by omega, sw, fun _ _ _ => rfl, fun _ _ _ _ _ _ => rfl, fun _ _ _ => rfl⟩, junk (by kernel_rfl)⟩; omega)
    · rw [List.take_of_length_le (by omega)] at hb3
      rw [hwj]
      (rw [hI4]; with_reducible refine loopN_normal (m := _) ?_ ⟨j + 1, b, _, rfl, z, ⟨rfl, by omega, by omega, sw, hb1, fun j2 x g1 g2 g3 g4 => by
        by_cases e : j2 = j
        · subst e
          rw [hw1'] at g3
          cases g3
          exact hb3 _ g4 rfl
        · exact hb2 j2 x g1 (by omega) g3 g4⟩, junk (by kernel_rfl)⟩; omega)
  have hbt : b = true := by
    rcases used_der hpl hN hr hy' with hu | ⟨j2, x, g1, g2, g3⟩
    · exact hb1 _ hu rfl
    · exact hb2 j2 x g1 (by have := (List.getElem?_eq_some_iff.1 g2).1; omega) g2 g3
  subst hbt
  clear hb1 hb2 hlt2 hwj hI4 hj0 hj1
  simp -implicitDefEqProofs only [syms, symx, seval, c11]
  obtain ⟨I6, hI6⟩ : ∃ I : Nat → Env → Heap → Prop, I = (fun n e h' => ∃ (m : Nat) (h1 : Heap), h' = h1.lay [] h1.low ∧ Ext h h1 ∧ (n = y.cites.length - m ∧ m ≤ y.cites.length ∧ Sl Rep.step h1 ws (derD (keptD l out))) ∧ ∃ J : Nat → Value, e = (v :: u :: jr J 2 3 (ws :: jr J 6 2 (.int .i64 i :: .bool true :: jr J 10 3 (.int .i64 m :: jr J 14 190 ([])))))) := ⟨_, rfl⟩
  refine W_loopN I6 _ (by rw [hI6]; exact ⟨0, _, rfl, z, ⟨rfl, by omega, sw⟩, junk (by kernel_rfl)⟩) ?_
  intro n e h' hin
  rw [hI6] at hin
  obtain ⟨m, h1', rfl, z, hinv, J, rfl⟩ := hin
  clear sw
  obtain ⟨rfl, hm1, sw⟩ := hinv
  have hwm : IntKind.i64.wrap ((m : Int) + 1) = ((m + 1 : Nat) : Int) := by rw [wrap_i64 (by omega) (by omega)]; omega
  repeat' (first | simp -implicitDefEqProofs only [syms, symx, seval, c11, hvw] | ((with_reducible first | apply forkD | apply forkB | apply forkN | apply forkNP | apply forkNot) <;> intro _) | with_reducible_and_instances refine ixp_at sw ds84 sz90 (by omega) hy (fun p2 b2 hb2 hq2 => ?_) | with_reducible_and_instances refine fdr2 hq2 fa90_2 (fun q6 hq6 => ?_) | with_reducible_and_instances refine ld_one hq6 ag32 ?_ | with_reducible_and_instances refine ln_rule hb2 ds32 ?_ | ((with_reducible_and_instances apply unop_not); (· rfl)) | ((with_reducible refine ⟨z.grw.lay _ _, ?_⟩); (intro _ h' zz x _); (try simp only [lay_lay, List.append_nil] at x); (try replace sw := sw.over x); (replace z := zz); (clear zz); rw [lay_nil h']))
  · obtain ⟨c, hc1, hc1'⟩ := amElem (l := y.cites) (i := m) (by omega)
    have hcc := ahead_der hkp i y hy' c (List.mem_of_getElem? hc1')
    repeat' ((first | ((with_reducible first | apply forkD | apply forkB | apply forkN | apply forkNP | apply forkNot) <;> intro _) | with_reducible_and_instances refine ixp_at sw ds84 sz90 (by omega) hy (fun p2 b2 hb2 hq2 => ?_) | with_reducible_and_instances refine fdr2 hq2 fa90_2 (fun q6 hq6 => ?_) | with_reducible_and_instances refine ld_one hq6 ag32 ?_ | with_reducible_and_instances refine ixi_at hb2 ds32 sz3 (by omega) hc1 (fun p3 hp3 => ?_) | with_reducible_and_instances refine ld_one hp3 ag3 ?_ | ((with_reducible_and_instances apply unop_not); (· rfl)) | ((with_reducible refine ⟨z.grw.lay _ _, ?_⟩); (intro _ h' zz x _); (try simp only [lay_lay, List.append_nil] at x); (try replace sw := sw.over x); (replace z := zz); (clear zz); rw [lay_nil h'])) <;> simp -implicitDefEqProofs only [syms, symx, seval, c11, hvw])
    · exfalso; omega
    · exfalso; omega
    rw [hwm]
    (rw [hI6]; with_reducible refine loopN_normal (m := _) ?_ ⟨m + 1, _, rfl, z, ⟨rfl, by omega, sw⟩, junk (by kernel_rfl)⟩; omega)
  repeat' (first | simp -implicitDefEqProofs only [syms, symx, seval, c11, Bool.not_true, hvw] | ((with_reducible first | apply forkD | apply forkB | apply forkN | apply forkNP | apply forkNot) <;> intro _) | with_reducible_and_instances refine ixp_at sw ds84 sz90 (by omega) hy (fun p2 b2 hb2 hq2 => ?_) | with_reducible_and_instances refine fdr0 hq2 fa90_0 (fun q3 hq3 => ?_) | with_reducible_and_instances refine lda hq3 ag39 sz39 ?_ | ((with_reducible_and_instances apply unop_not); (· rfl)) | ((with_reducible refine ⟨z.grw.lay _ _, ?_⟩); (intro _ h' zz x _); (try simp only [lay_lay, List.append_nil] at x); (try replace sw := sw.over x); (replace z := zz); (clear zz); rw [lay_nil h']))
  refine ok_last _ y.re.atom ws _ (sw.lay _ _) (by omega) _ (fun h' x => ?_)
  ((first | ((with_reducible refine KOpsX_call ?_ ?_ ?_); (· exact (by (try simp only [lsz]); have := z.size; omega)); (· first | exact x | simpa only [lla] using x)) | skip); replace z := z.overW x (by (try simp only [lsz]); omega); (try replace sw := sw.over x); rw [lay_nil h'])
  rw [show lastD (derD (keptD l out)) y.re.atom = i from last_der hkp hy']
  repeat' (first | simp -implicitDefEqProofs only [syms, symx, seval, c11] | ((with_reducible first | apply forkD | apply forkB | apply forkN | apply forkNP | apply forkNot) <;> intro _) | with_reducible_and_instances refine ixp_at sw ds84 sz90 (by omega) hy (fun p2 b2 hb2 hq2 => ?_) | with_reducible_and_instances refine fdr0 hq2 fa90_0 (fun q3 hq3 => ?_) | with_reducible_and_instances refine lda hq3 ag39 sz39 ?_ | ((with_reducible_and_instances apply unop_not); (· rfl)) | ((with_reducible refine ⟨z.grw.lay _ _, ?_⟩); (intro _ h' zz x _); (try simp only [lay_lay, List.append_nil] at x); (try replace sw := sw.over x); (replace z := zz); (clear zz); rw [lay_nil h']))
  · rename_i hne
    exact absurd rfl hne
  rw [hwi]
  (rw [hI2]; with_reducible refine loopN_normal (m := _) ?_ ⟨i + 1, _, rfl, z, ⟨rfl, by omega, sw⟩, junk (by kernel_rfl)⟩; omega)
end Go.Proofs.Ytompindebndddaa
namespace Go.Proofs.Ytompindebndddaa
open Go.ChangeShapes Go.WideShapes Go.ChangeAt Go.RowKit Go.Am
theorem proofWhole_own : ownKnob Try.prog.godebug = none := by kernel_rfl
theorem proofWhole_laidOut : laidOutB Try.prog = true := by kernel_rfl
set_option maxRecDepth 100000 in
theorem proofWhole_ok (h : Heap) (args : List Value) (_ : h.low = h.size) (hs : ArgsShp Try.prog h 8 Try.f11.params.toList args) : Ok Try.prog tab ov 11 args h fun v h' => v = .bool true ∧ Ext h h' := by
  have hp : Try.f11.params.toList = [24, 23] := by kernel_rfl
  have hs2 : ArgsShp Try.prog h 8 [24, 23] args := argsShp_eq hp hs
  clear hs
  obtain ⟨x0, r0, rfl, h0, hs2⟩ := argsShp_cons hs2
  obtain ⟨x1, r1, rfl, h1, hs2⟩ := argsShp_cons hs2
  obtain rfl := argsShp_nil hs2
  obtain ⟨d0, f0⟩ := arg_reasons h0
  obtain ⟨d1, f1⟩ := arg_atoms h1
  exact ok_proofWhole d0 d1 x0 x1 h f0 f1 _ (fun h' x => ⟨rfl, x⟩)
set_option maxRecDepth 100000 in
theorem proofWhole_lifted (os : Os) (started : os.Started) (H : Type) (enc : TypeId × Value → H) :
    ReturnsInHanded {} Try.checked os 11 .any (Rows.proofWholeSpec.pre6 enc Try.prog Try.f11 Rows.proofWholeRow.domain false) (Rows.proofWholeSpec.post enc Try.prog Try.f11 Rows.proofWholeRow.apart Rows.proofWholeRow.fresh Rows.proofWholeRow.handsOn Rows.proofWholeRow.again) := by
  refine returnsInHanded_of_change_shaped (C := Try.checked) proofWhole_own started (by kernel_rfl) Try.func11
    (ChangeSpec.witness6 (enc := enc) (C := Try.checked) false ⟨#[], #[.slice none 0 0, .slice none 0 0], []⟩ 12 (by kernel_rfl) (by kernel_rfl) (by kernel_rfl) (by kernel_rfl)) ?_
  intro W base args ds gs before hval hW _ _ hsh _
  exact law_contract (n := 8) (boolT := 4) mixed tab_fits rfl ov_ok rfl (of_decide_eq_true (by kernel_rfl)) proofWhole_laidOut rfl (by kernel_rfl) (by kernel_rfl) Try.underlying4 (by kernel_rfl) (by kernel_rfl)
    (fun ds hd => by
      have hp : Try.f11.params.size = 2 := by kernel_rfl
      rw [hp] at hd
      match ds, hd with
      | [_, _], _ => rfl)
    proofWhole_ok hval hW hsh
theorem proofWhole_holds : Rows.ProofWholeSaid :=
  OpenClaim.holds_of_wide 11 Try.f11 rfl rfl rfl rfl rfl rfl rfl ⟨rfl, rfl, rfl, rfl, rfl⟩ rfl rfl rfl rfl rfl (by kernel_rfl) Try.func11 (by kernel_rfl)
    (of_decide_eq_true (by kernel_rfl)) (by unfold Func.isWrapper; first | (rw [if_pos (by decide +kernel)]; kernel_rfl) | (rw [if_neg (by decide +kernel)]; exact ⟨rfl, rfl⟩))
    (fun os started H enc _ => proofWhole_lifted os started H enc)
#print axioms proofWhole_holds
end Go.Proofs.Ytompindebndddaa
