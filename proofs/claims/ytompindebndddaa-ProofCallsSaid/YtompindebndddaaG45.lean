/- The code of some functions, node by node, for simp. Written by a program (mkcode.py). No condition. -/
import Derived.Test.YtompindebndddaaG30
import Derived.Test.YtompindebndddaaG27
import Derived.KernelRfl
import Derived.Test.YtompindebndddaaG36
import Derived.Test.YtompindebndddaaG44
namespace Go.Proofs.Ytompindebndddaa
open Go.Am
set_option linter.unusedVariables false
set_option linter.unusedSimpArgs false
set_option maxRecDepth 100000
set_option maxHeartbeats 0
noncomputable def N197 := nodeF Try.f197
noncomputable def x197 := PLift.up (by have c := factsOf N197 Try.f197; simp only [codeOf, Try.f197, Option.getD_some, factsF, opsF, opsX, ncount, wantG, dstL, quietS, List.append_eq, List.cons_append, List.nil_append, seval] at c; exact nd c <| nd @ix32 <| nd @ld3 <| nd @ln32 <| @fi197)
theorem c197 : type_of% x197.down := x197.down
noncomputable def N161 := nodeF Try.f161
noncomputable def x161 := PLift.up (by have c := factsOf N161 Try.f161; simp only [codeOf, Try.f161, Option.getD_some, factsF, opsF, opsX, ncount, wantG, dstL, quietS, List.append_eq, List.cons_append, List.nil_append, seval] at c; exact nd c <| @fi161)
theorem c161 : type_of% x161.down := x161.down
noncomputable def N162 := nodeF Try.f162
noncomputable def x162 := PLift.up (by have c := factsOf N162 Try.f162; simp only [codeOf, Try.f162, Option.getD_some, factsF, opsF, opsX, ncount, wantG, dstL, quietS, List.append_eq, List.cons_append, List.nil_append, seval] at c; exact nd c <| nd @ld3 <| @fi162)
theorem c162 : type_of% x162.down := x162.down
noncomputable def N124 := nodeF Try.f124
noncomputable def x124 := PLift.up (by have c := factsOf N124 Try.f124; simp only [codeOf, Try.f124, Option.getD_some, factsF, opsF, opsX, ncount, wantG, dstL, quietS, List.append_eq, List.cons_append, List.nil_append, seval] at c; exact nd c <| nd @al3 <| nd @al90 <| nd @fa90_2 <| nd @ix84 <| nd @ld32 <| nd @ld90 <| nd @ln84 <| @fi124)
theorem c124 : type_of% x124.down := x124.down
noncomputable def N60 := nodeF Try.f60
noncomputable def x60 := PLift.up (by have c := factsOf N60 Try.f60; simp only [codeOf, Try.f60, Option.getD_some, factsF, opsF, opsX, ncount, wantG, dstL, quietS, List.append_eq, List.cons_append, List.nil_append, seval] at c; exact nd c <| nd @al41 <| nd @al90 <| nd @bs23 <| nd @bs24 <| nd @fa41_2 <| nd @fa90_0 <| nd @fa90_1 <| nd @fa90_2 <| nd @ix32 <| nd @ix84 <| nd @ld23 <| nd @ld3 <| nd @ld32 <| nd @ld39 <| nd @ld41 <| nd @ld90 <| nd @ln32 <| nd @ln84 <| @fi60)
theorem c60 : type_of% x60.down := x60.down
noncomputable def N61 := nodeF Try.f61
noncomputable def x61 := PLift.up (by have c := factsOf N61 Try.f61; simp only [codeOf, Try.f61, Option.getD_some, factsF, opsF, opsX, ncount, wantG, dstL, quietS, List.append_eq, List.cons_append, List.nil_append, seval] at c; exact nd c <| @fi61)
theorem c61 : type_of% x61.down := x61.down
noncomputable def N11 := nodeF Try.f11
noncomputable def x11 := PLift.up (by have c := factsOf N11 Try.f11; simp only [codeOf, Try.f11, Option.getD_some, factsF, opsF, opsX, ncount, wantG, dstL, quietS, List.append_eq, List.cons_append, List.nil_append, seval] at c; exact nd c <| nd @fa90_0 <| nd @fa90_2 <| nd @ix23 <| nd @ix32 <| nd @ix84 <| nd @ld3 <| nd @ld32 <| nd @ld39 <| nd @ln23 <| nd @ln32 <| nd @ln84 <| @fi11)
end Go.Proofs.Ytompindebndddaa
namespace Go.Proofs.Ytompindebndddaa
open Go.Am
set_option linter.unusedSimpArgs false
set_option linter.unusedVariables false
set_option maxRecDepth 100000
set_option maxHeartbeats 0
theorem ok_indexIntF (l : List Int) (v fv : Value) (pr : Int → Bool) (h : Heap) (hl : Sl Rep.int h v l) (hs : l.length ≤ 1000) (hpf : ∀ (x : Int) (hc : Heap) (K : Value → Heap → Prop), Ext h hc → (∀ h', Ext hc h' → K (.bool (pr x)) h') → callE Try.prog tab ov [.int .i64 x] hc K fv) (K : Value → Heap → Prop)
    (hk : ∀ h', Ext h h' → K (.int .i64 (idxP pr l)) h') : Ok Try.prog tab ov 197 [v, fv] h K := by
  rw [lay_nil h]
  have z := Ext.refl h
  refine Ok.into rfl tab_fn197 (bodyF N197) rfl (m := 17) rfl ?_
  simp -implicitDefEqProofs only [syms, symx, seval, c197]
  repeat' (( with_reducible_and_instances refine ln_rule hl ds32 ?_) <;> simp -implicitDefEqProofs only [syms, symx, seval, c197])
  obtain ⟨I1, hI1⟩ : ∃ I : Nat → Env → Heap → Prop, I = (fun n e h' => ∃ (i : Nat) (h1 : Heap), h' = h1.lay [] h1.low ∧ Ext h h1 ∧ (n = l.length - i ∧ i ≤ l.length ∧ ∀ x ∈ l.take i, pr x = false) ∧ ∃ J : Nat → Value, e = (v :: fv :: jr J 2 5 (.int .i64 l.length :: .int .i64 i :: jr J 9 10 ([])))) := ⟨_, rfl⟩
  refine W_loopN I1 _ (by rw [hI1]; exact ⟨0, _, rfl, z, ⟨rfl, by omega, by simp⟩, junk (by kernel_rfl)⟩) ?_
  intro n e h' hin
  rw [hI1] at hin
  obtain ⟨i, h1', rfl, z, hinv, J, rfl⟩ := hin
  obtain ⟨rfl, hi, hall⟩ := hinv
  have hw : IntKind.i64.wrap ((i : Int) + 1) = ((i + 1 : Nat) : Int) := by rw [wrap_i64 (by omega) (by omega)]; omega
  repeat' (first | simp -implicitDefEqProofs only [syms, symx, seval, c197] | ((with_reducible  apply forkD ) <;> intro _))
  rotate_left
  · rw [List.take_of_length_le (by omega)] at hall
    have := idx_none hall
    rw [this] at hk
    exact hk _ (z.upW _ _ (by omega))
  obtain ⟨r, hr, hr'⟩ := amElem (l := l) (i := i) (by assumption)
  repeat' ((first | with_reducible_and_instances refine ixi_at (hl.mono z.inc) ds32 sz3 (by omega) hr (fun p hp => ?_) | with_reducible_and_instances refine ld_one hp ag3 ?_) <;> simp -implicitDefEqProofs only [syms, symx, seval, c197])
  refine hpf _ _ _ (z.upW _ _ (by omega)) (fun h' x => ?_)
  ((skip); replace z := z.overW x (by (try simp only [lsz]); omega); rw [lay_nil h'])
  cases hx : pr r
  rotate_left
  · simp -implicitDefEqProofs only [syms, symx, seval, c197]
    have := idx_found hr' hall hx
    rw [this] at hk
    exact hk _ (z.upW _ _ (by omega))
  · simp -implicitDefEqProofs only [syms, symx, seval, c197]
    rw [hw]
    (rw [hI1]; with_reducible refine loopN_normal (m := _) ?_ ⟨i + 1, _, rfl, z, ⟨rfl, by omega, take_all (i := i) (P := fun x : Int => pr x = false) hr' hall hx⟩, junk (by kernel_rfl)⟩; omega)
theorem ok_containsIntF (l : List Int) (v fv : Value) (pr : Int → Bool) (h : Heap) (hl : Sl Rep.int h v l) (hs : l.length ≤ 1000) (hpf : ∀ (x : Int) (hc : Heap) (K : Value → Heap → Prop), Ext h hc → (∀ h', Ext hc h' → K (.bool (pr x)) h') → callE Try.prog tab ov [.int .i64 x] hc K fv) (K : Value → Heap → Prop)
    (hk : ∀ h', Ext h h' → K (.bool (l.any pr)) h') : Ok Try.prog tab ov 161 [v, fv] h K := by
  refine Ok.into rfl tab_fn161 (bodyF N161) rfl (m := 7) rfl ?_
  simp -implicitDefEqProofs only [syms, symx, seval, c161]
  refine ok_indexIntF l v fv pr h hl hs hpf _ (fun h' x => ?_)
  simp -implicitDefEqProofs only [syms, symx, seval, c161, idx_any]
  refine forkT (fun hh => ?_) (fun hh => ?_)
  all_goals
    simp -implicitDefEqProofs only [syms, symx, seval, c161]
    rw [hh] at hk
    exact hk _ x
theorem ok_ahead1 (i : Nat) (c : Int) (A : Nat) (h : Heap) (q0 : Holds h A (.row [.int .i64 i] 3 false)) (K : Value → Heap → Prop)
    (hk : ∀ h', Ext h h' → K (.bool (decide (¬ (0 ≤ c ∧ c < (i : Int))))) h') : Ok Try.prog tab ov 162 [.int .i64 c, .pointer (some ⟨A, 0, none⟩)] h K := by
  rw [lay_nil h]
  have z := Ext.refl h
  refine Ok.into rfl tab_fn162 (bodyF N162) rfl (m := 9) rfl ?_
  simp -implicitDefEqProofs only [syms, symx, seval, c162, q0.lay]
  refine forkD (fun h1 => ?_) (fun h1 => ?_)
  · simp -implicitDefEqProofs only [syms, symx, seval, c162]
    rw [decide_eq_true (by omega)] at hk
    exact hk _ (z.upW _ _ (by omega))
  · simp -implicitDefEqProofs only [syms, symx, seval, c162, q0.lay]
    refine forkD (fun h2 => ?_) (fun h2 => ?_)
    · simp -implicitDefEqProofs only [syms, symx, seval, c162]
      rw [decide_eq_true (by omega)] at hk
      exact hk _ (z.upW _ _ (by omega))
    · simp -implicitDefEqProofs only [syms, symx, seval, c162]
      rw [decide_eq_false (by omega)] at hk
      exact hk _ (z.upW _ _ (by omega))
theorem any_ahead {l : List Int} {i : Nat} : l.any (fun c => decide (¬ (0 ≤ c ∧ c < (i : Int)))) = false ↔ ∀ c ∈ l, 0 ≤ c ∧ c < (i : Int) := by
  rw [List.any_eq_false]
  simp only [decide_eq_true_eq, Classical.not_not]
theorem ahead_next {l : List StepD} {i : Nat} {r : StepD} (hr : l[i]? = some r) (h : AheadD (l.take i)) (hc : ∀ c ∈ r.cites, 0 ≤ c ∧ c < (i : Int)) : AheadD (l.take (i + 1)) := by
  intro j x hx c hcx
  rw [List.getElem?_take] at hx
  split at hx
  · by_cases hj : j = i
    · subst hj
      rw [hr] at hx
      cases hx
      exact hc c hcx
    · exact h j x (by rw [List.getElem?_take_of_lt (by omega)]; exact hx) c hcx
  · cases hx
theorem ok_ahead (l : List StepD) (v : Value) (h : Heap) (hl : Sl Rep.step h v l) (hs : l.length ≤ 1000) (hc : ∀ s ∈ l, s.cites.length ≤ 1000) (K : Value → Heap → Prop)
    (h1k : AheadD l → ∀ h', Ext h h' → K (.bool true) h') (h2k : ¬ AheadD l → ∀ h', Ext h h' → K (.bool false) h') : Ok Try.prog tab ov 124 [v] h K := by
  rw [lay_nil h]
  have z := Ext.refl h
  have hva := vSelf v
  have hlv := fun (hh : Heap) => hl.lenA ds84 hh
  refine Ok.into rfl tab_fn124 (bodyF N124) rfl (m := 16) rfl ?_
  repeat' ( simp -implicitDefEqProofs only [syms, symx, seval, c124, hva, hlv])
  obtain ⟨I1, hI1⟩ : ∃ I : Nat → Env → Heap → Prop, I = (fun n e h' => ∃ (i : Nat) (h1 : Heap), h' = h1.lay [] h1.low ∧ Ext h h1 ∧ (n = l.length - i ∧ i ≤ l.length ∧ AheadD (l.take i)) ∧ ∃ J : Nat → Value, e = (v :: jr J 1 4 (v :: .int .i64 l.length :: .int .i64 i :: jr J 8 9 ([])))) := ⟨_, rfl⟩
  refine W_loopN I1 _ (by rw [hI1]; exact ⟨0, _, rfl, z, ⟨rfl, by omega, fun j x hx => by simp at hx⟩, junk (by kernel_rfl)⟩) ?_
  intro n e h' hin
  rw [hI1] at hin
  obtain ⟨i, h1', rfl, z, hinv, J, rfl⟩ := hin
  obtain ⟨rfl, hi, hall⟩ := hinv
  have hw : IntKind.i64.wrap ((i : Int) + 1) = ((i + 1 : Nat) : Int) := by rw [wrap_i64 (by omega) (by omega)]; omega
  simp -implicitDefEqProofs only [syms, symx, seval, c124, hva]
  refine forkD (fun hlt => ?_) (fun hlt => ?_)
  rotate_left
  · rw [List.take_of_length_le (by omega)] at hall
    repeat' ( simp -implicitDefEqProofs only [syms, symx, seval, c124])
    exact h1k hall _ (z.upW _ _ (by omega))
  obtain ⟨r, hr, hr'⟩ := amElem (l := l) (i := i) (by omega)
  repeat' (first | simp -implicitDefEqProofs only [syms, symx, seval, c124, hva] | with_reducible_and_instances refine ixp_at (hl.mono z.inc) ds84 sz90 (by omega) hr (fun p b hb hp => ?_) | with_reducible_and_instances refine ldr hp ag90 sz90 ?_)
  have hall13 := one_reP (a := r.re.atom) (n := r.re.clause) hb.one
  have hvb := vSelf b
  repeat' ( simp -implicitDefEqProofs only [syms, symx, seval, c124, lay_set, storeO_row, List.all_cons, List.all_nil, Am.one, Bool.and_true, Bool.true_and, Bool.and_self, List.set_cons_zero, List.set_cons_succ, st4, st3, st9, st36, st39, st47, st41, st192, st90, len_reP, hall13, dec13P, if_true, ↓cut_re13P, cell_re2P, hvb])
  refine ok_containsIntF r.cites b _ (fun c => decide (¬ (0 ≤ c ∧ c < (i : Int)))) _ (hb.lay _ _) (hc r (List.mem_of_getElem? hr')) (fun c hcc K' xe hk' => ?_) _ (fun h' x => ?_)
  · rw [callE_clos]
    exact ok_ahead1 i c _ hcc (Holds.top (i := 0) xe rfl) K' hk'
  ((skip); replace z := z.overW x (by (try simp only [lsz]); omega); rw [lay_nil h'])
  cases hx : r.cites.any (fun c => decide (¬ (0 ≤ c ∧ c < (i : Int))))
  · rw [any_ahead] at hx
    repeat' ( simp -implicitDefEqProofs only [syms, symx, seval, c124])
    rw [hw]
    (rw [hI1]; with_reducible refine loopN_normal (m := _) ?_ ⟨i + 1, _, rfl, z, ⟨rfl, by omega, ahead_next hr' hall hx⟩, junk (by kernel_rfl)⟩; omega)
  · have hna : ¬ AheadD l := fun ha => by
      rw [any_ahead.2 (ha i r hr')] at hx
      cases hx
    repeat' ( simp -implicitDefEqProofs only [syms, symx, seval, c124])
    exact h2k hna _ (z.upW _ _ (by omega))
theorem ow_pick {α : Type} {r : Rep α} {h0 h : Heap} {e A : Nat} {v : Value} {l : List α} (f : Ow r h0 h e A v l) (N : Nat) (hN : h0.size ≤ N) : ∃ A2, Ow r h0 h e A2 v l ∧ (A2 < h.size ∨ A2 = N) := by
  rcases f with ⟨f1, f2, f3⟩ | ⟨row, e1, e2, e3, e4, rest⟩
  · exact ⟨N, .inl ⟨hN, f2, f3⟩, .inr rfl⟩
  · exact ⟨A, .inr ⟨row, e1, e2, e3, e4, rest⟩, .inl e4⟩
theorem bld_reason (a : AtomD) (n : Int) : buildA tab 41 [(0, a.val), (1, .int .i64 n)] = some (.agg ⟨a.cells ++ [.int .i64 n, .slice none 0 0]⟩) := by kernel_rfl
theorem ok_reasons (l : List StepD) (v : Value) (h : Heap) (hl : Sl Rep.step h v l) (hs : l.length ≤ 1000) (hc : ∀ s ∈ l, s.cites.length ≤ 1000) (K : Value → Heap → Prop)
    (h1k : AheadD l → ∀ h' w, Ext h h' → Sl Rep.reason h' w (reasonsD l) → K (.tuple #[w, .int .i64 0]) h') (h2k : ¬ AheadD l → ∀ h', Ext h h' → K (.tuple #[.slice none 0 0, .int .i64 2]) h') : Ok Try.prog tab ov 60 [v] h K := by
  rw [lay_nil h]
  have z := Ext.refl h
  have hva := vSelf v
  have hlv := fun (hh : Heap) => hl.lenA ds84 hh
  refine Ok.into rfl tab_fn60 (bodyF N60) rfl (m := 47) rfl ?_
  repeat' ( simp -implicitDefEqProofs only [syms, symx, seval, c60, hva])
  refine ok_ahead l v _ (hl.lay _ _) hs hc _ (fun ha h' x => ?_) (fun ha h' x => ?_)
  rotate_left
  · (( skip); replace z := z.overW x (by (try simp only [lsz]); omega); rw [lay_nil h'])
    repeat' (first | simp -implicitDefEqProofs only [syms, symx, seval, c60] | ((with_reducible_and_instances apply unop_not); (· rfl)))
    exact h2k ha _ (z.upW _ _ (by omega))
  (( skip); replace z := z.overW x (by (try simp only [lsz]); omega); rw [lay_nil h'])
  have hz0 := z.size
  repeat' (first | simp -implicitDefEqProofs only [syms, symx, seval, c60, hva, hlv] | ((with_reducible_and_instances apply unop_not); (· rfl)))
  obtain ⟨I1, hI1⟩ : ∃ I : Nat → Env → Heap → Prop, I = (fun n e h' => ∃ (i : Nat) (wv : Value) (A : Nat) (h1 : Heap), h' = h1.lay [] h1.low ∧ Ext h h1 ∧ (n = l.length - i ∧ i ≤ l.length ∧ Ow Rep.reason h h1 41 A wv ((l.take i).map (backD l))) ∧ ∃ J : Nat → Value, e = (v :: jr J 1 3 (wv :: jr J 5 8 (v :: .int .i64 l.length :: .int .i64 i :: jr J 16 32 ([]))))) := ⟨_, rfl⟩
  refine W_loopN I1 _ (by rw [hI1]; exact ⟨0, .slice none 0 0, h.size, _, rfl, z, ⟨rfl, by omega, Ow.nil (Nat.le_refl _)⟩, junk (by kernel_rfl)⟩) ?_
  intro n e h' hin
  rw [hI1] at hin
  obtain ⟨i, wv, A, h1', rfl, z, hinv, J, rfl⟩ := hin
  obtain ⟨rfl, hi, ow⟩ := hinv
  have hz1 := z.size
  have hwi : IntKind.i64.wrap ((i : Int) + 1) = ((i + 1 : Nat) : Int) := by rw [wrap_i64 (by omega) (by omega)]; omega
  have hvw := vSelf wv
  simp -implicitDefEqProofs only [syms, symx, seval, c60, hva]
  refine forkD (fun hlt1 => ?_) (fun hlt1 => ?_)
  rotate_left
  · rw [List.take_of_length_le (by omega)] at ow
    repeat' ( simp -implicitDefEqProofs only [syms, symx, seval, c60, hvw])
    exact h1k ha _ _ (z.upW _ _ (by omega)) ((ow.sl (by decide)).lay _ _)
  obtain ⟨r, hr, hr'⟩ := amElem (l := l) (i := i) (by omega)
  repeat' (first | simp -implicitDefEqProofs only [syms, symx, seval, c60, hva] | with_reducible_and_instances refine ixp_at (hl.mono z.inc) ds84 sz90 (by omega) hr (fun p b hb hp => ?_) | with_reducible_and_instances refine ldr hp ag90 sz90 ?_)
  have hall := one_reP (a := r.re.atom) (n := r.re.clause) hb.one
  have hall2 := one_reM (a := r.re.atom) (n := r.re.clause) (w := .slice none 0 0) rfl
  have hvb := vSelf b
  repeat' ( simp -implicitDefEqProofs only [syms, symx, seval, c60, lay_set, storeO_row, List.all_cons, List.all_nil, Am.one, Bool.and_true, Bool.true_and, Bool.and_self, List.set_cons_zero, List.set_cons_succ, st4, st3, st9, st36, st39, st47, st41, st192, st90, len_reP, hall, dec13P, if_true, ↓cut_re13P, ↓cut_re0P, agg_atom, valE_atom, cell_re1P, cell_re2P, hvb, bld_reason, hall2])
  have hlb := fun (hh : Heap) => hb.lenA ds32 hh
  repeat' ( simp -implicitDefEqProofs only [syms, symx, seval, c60, hlb, hvb])
  refine W_fold (fun h' x hq => ?_)
  have e0 := hq 0 _ rfl
  have s0 := hq 1 _ rfl
  clear hq
  (replace z := z.overW x (by (try simp only [lsz]); omega); rw [lay_nil h'])
  have zi : Grw h1' h' := (Ext.refl h1').grw.over x
  obtain ⟨E0, hE0⟩ : ∃ E0, E0 = h1'.size + 0 := ⟨_, rfl⟩
  obtain ⟨S0, hS0⟩ : ∃ S0, S0 = h1'.size + 1 := ⟨_, rfl⟩
  rw [← hE0] at e0
  rw [← hS0] at s0
  rw [← hE0, ← hS0]
  have hz2 := z.size
  have hclen := hc r (List.mem_of_getElem? hr')
  obtain ⟨I2, hI2⟩ : ∃ I : Nat → Env → Heap → Prop, I = (fun n e h' => ∃ (j : Nat) (cv : Value) (C : Nat) (h1 : Heap), h' = h1.lay [] h1.low ∧ Ext h h1 ∧ (n = r.cites.length - j ∧ j ≤ r.cites.length ∧ Grw h1' h1 ∧ Holds h1 E0 (.row (r.atom.cells ++ [.int .i64 r.clause, b]) 90 false) ∧ Holds h1 S0 (.row (r.atom.cells ++ [.int .i64 r.clause, cv]) 41 false) ∧ Ow Rep.atom h1' h1 39 C cv ((r.cites.take j).map fun c => (l.getD c.toNat noStepD).atom) ∧ C ≠ E0 ∧ C ≠ S0) ∧ ∃ J : Nat → Value, e = (v :: jr J 1 3 (wv :: J 5 :: .pointer (some ⟨E0, 0, none⟩) :: .pointer (some ⟨S0, 0, none⟩) :: jr J 8 5 (v :: .int .i64 l.length :: .int .i64 i :: jr J 16 9 (b :: .int .i64 r.cites.length :: .int .i64 j :: jr J 28 20 ([])))))) := ⟨_, rfl⟩
  refine W_loopN I2 _ (by rw [hI2]; exact ⟨0, .slice none 0 0, S0 + 1, _, rfl, z, ⟨rfl, by omega, zi, e0, s0, Ow.nil (by omega), by omega, by omega⟩, junk (by kernel_rfl)⟩) ?_
  intro n e h' hin
  rw [hI2] at hin
  obtain ⟨j, cv, C, h2', rfl, z, hinv, J, rfl⟩ := hin
  clear zi e0 s0
  obtain ⟨rfl, hj, zi, e0, s0, oc, hC1, hC2⟩ := hinv
  have hwj : IntKind.i64.wrap ((j : Int) + 1) = ((j + 1 : Nat) : Int) := by rw [wrap_i64 (by omega) (by omega)]; omega
  have hvc := vSelf cv
  simp -implicitDefEqProofs only [syms, symx, seval, c60, hvb]
  refine forkD (fun hlt2 => ?_) (fun hlt2 => ?_)
  rotate_left
  · rw [List.take_of_length_le (l := r.cites) (i := j) (by omega)] at oc
    have hzs := z.size
    have hzi := zi.1
    obtain ⟨A, ow, hA2⟩ := ow_pick ow (h2'.size + 1) (by omega)
    have ow3 := ow.mono zi.inc
    repeat' ( simp -implicitDefEqProofs only [syms, symx, seval, c60, hvw, s0.lay, ↓cut_re13M])
    simp -implicitDefEqProofs only [syms, symx, seval, c60, fill_step, w_append, sty24]
    obtain ⟨wa, wn, wc, rfl⟩ := oc.slice
    have hHs : (h2'.lay [Blk.row (r.atom.cells ++ [.int .i64 r.clause, .slice wa wn wc]) 41 false] h2'.low).size = h2'.size + 1 := by rw [lay_size]; rfl
    have hR : Rep.reason.R (kill A (h2'.lay [Blk.row (r.atom.cells ++ [.int .i64 r.clause, .slice wa wn wc]) 41 false] h2'.low)) (r.atom.cells ++ [.int .i64 r.clause, .slice wa wn wc]) (backD l r) :=
      ⟨_, rfl, (oc.lay _ _).under (by decide) (fun _ _ _ _ h => h) (hA2.imp id (fun e => by rw [hHs]; omega))⟩
    have hkl : ((l.take i).map (backD l)).length ≤ 1000 := by rw [List.length_map, List.length_take]; omega
    obtain ⟨hs1, hsr⟩ := src_row (r := Rep.reason) (c := 1) (by decide) (show (h2'.lay [Blk.row (r.atom.cells ++ [.int .i64 r.clause, .slice wa wn wc]) 41 false] h2'.low).get (h2'.size + 0) = some (.row (r.atom.cells ++ [.int .i64 r.clause, .slice wa wn wc]) 41 false) by rw [lay_get]; rfl) hR
    obtain ⟨w', h6, A'', e1, e2, e3, e4, e5⟩ := app_ow (t := 24) ds24 tab_info41 rfl (by decide) (by rw [hHs]; omega) (ow3.lay _ _) hs1 hsr (by omega) (by omega)
    have hfA := ow3.fresh
    rw [hHs] at e4
    replace z := (z.upW [Blk.row (r.atom.cells ++ [.int .i64 r.clause, .slice wa wn wc]) 41 false] h2'.low (by omega)).step e3 hfA
    have hz6 := e3.size
    rw [hHs] at hz6
    rw [e1, lay_nil h6]
    have htk : (l.take (i + 1)).map (backD l) = (l.take i).map (backD l) ++ [backD l r] := by rw [List.take_add_one, hr', List.map_append]; rfl
    rw [← htk] at e2
    clear ow3 oc s0
    repeat' ( simp -implicitDefEqProofs only [syms, symx, seval, c60])
    rw [hwi]
    (rw [hI1]; with_reducible refine loopN_normal (m := _) ?_ ⟨i + 1, _, A'', _, rfl, z, ⟨rfl, by omega, e2⟩, junk (by kernel_rfl)⟩; omega)
  obtain ⟨c0, hcr, hcr'⟩ := amElem (l := r.cites) (i := j) (by omega)
  have hcc := ha i r hr' c0 (List.mem_of_getElem? hcr')
  obtain ⟨x0, hx0⟩ : ∃ x0, l[c0.toNat]? = some x0 := ⟨_, List.getElem?_eq_getElem (by omega)⟩
  repeat' (first | simp -implicitDefEqProofs only [syms, symx, seval, c60, hvb] | with_reducible_and_instances refine ixi_at (hb.mono zi.inc) ds32 sz3 (by omega) hcr (fun p hp => ?_) | with_reducible_and_instances refine ld_one hp ag3 ?_)
  repeat' (first | simp -implicitDefEqProofs only [syms, symx, seval, c60, hva, hvc, s0.lay, cell_re2P] | with_reducible_and_instances refine ixp_at (hl.mono z.inc) ds84 sz90 (by omega) hx0 (fun p2 b2 hb2 hp2 => ?_) | with_reducible_and_instances refine fdr0 hp2 fa90_0 (fun q hq => ?_) | with_reducible_and_instances refine lda hq ag39 sz39 ?_ | with_reducible refine drawN (by simp only [c60]) (z.upW _ _ (by omega)) ?_)
  simp -implicitDefEqProofs only [syms, symx, seval, c60, fill_atom]
  refine KOpsX_alloc (by have := z.size; omega) (by omega) ?_
  simp -implicitDefEqProofs only [syms, symx, seval, c60, w_append, sty23]
  have hHs : (h2'.lay [Blk.row x0.re.atom.cells 39 false] (h2'.size + 1)).size = h2'.size + 1 := by rw [lay_size]; rfl
  have hcl : ((r.cites.take j).map fun c => (l.getD c.toNat noStepD).atom).length ≤ 1000 := by rw [List.length_map, List.length_take]; omega
  obtain ⟨hs1, hsr⟩ := src_row (r := Rep.atom) (A := C) (c := 1) (y := x0.re.atom) (by decide) (show (h2'.lay [Blk.row x0.re.atom.cells 39 false] (h2'.size + 1)).get (h2'.size + 0) = some (.row x0.re.atom.cells 39 false) by rw [lay_get]; rfl) rfl
  have hzi := zi.1
  obtain ⟨cv', h'', C', e1, e2, e3, e4, e5⟩ := app_ow (t := 23) ds23 tab_info39 rfl (by decide) (by rw [hHs]; omega) (oc.mono (Inc.lay _ _ _)) hs1 hsr (by omega) (by omega)
  have hfC := oc.fresh
  have e0l := e0.lt
  have s0l := s0.lt
  have hzz := z.size
  rw [e1]
  simp -implicitDefEqProofs only [syms, symx, seval, c60]
  refine KOpsX_chg (A := C) (by kernel_rfl) (by rw [lay_size]; omega) (by omega) (by simpa only [lay_lay, lay_size, List.append_nil, List.length_cons, List.length_nil, Nat.zero_add] using e3) ?_
  replace z := (z.upW [Blk.row x0.re.atom.cells 39 false] (h2'.size + 1) (by omega)).step e3 (by omega)
  replace zi := zi.stepL e3 hfC
  replace e0 := e0.stepL e3 (by omega)
  replace s0 := s0.stepL e3 (by omega)
  clear oc
  rw [lay_nil h'']
  repeat' ( simp -implicitDefEqProofs only [syms, symx, seval, c60])
  obtain ⟨ca, cn, cc, rfl⟩ := e2.slice
  refine store_cell s0 sz23 (by rw [len_reM]; decide) rfl rfl (fun h4 s0' c4 => ?_)
  have hzz2 := z.size
  have hzh : h2'.size + 1 ≤ h''.size := by have := e3.size; rw [hHs] at this; exact this
  refine KOpsX_chg (A := S0) (by kernel_rfl) (by rw [lay_size]; omega) (by omega) (by simpa only [lay_lay, lay_size, List.append_nil, List.length_cons, List.length_nil, Nat.zero_add] using c4) ?_
  replace z := (z.upW [] _ (by omega)).step c4 (by omega)
  replace zi := zi.stepL c4 (by omega)
  replace e0 := e0.stepL c4 (by omega)
  have hC4 : C' ≠ S0 ∧ C' ≠ E0 := by rw [hHs] at e4; omega
  replace e2 := (e2.lay [] _).chg (fun _ _ _ _ h => h) (by simp) c4 (Ne.symm hC4.1)
  rw [lay_nil h4]
  clear s0
  repeat' (first | simp -implicitDefEqProofs only [syms, symx, seval, c60] | ((with_reducible refine ⟨z.grw.lay _ _, ?_⟩); (intro _ h' zz x _); (try simp only [lay_lay, List.append_nil] at x); (try replace zi := zi.over x); (try replace e0 := e0.over x); (try replace s0' := s0'.over x); (try replace e2 := e2.over x); (replace z := zz); (clear zz); rw [lay_nil h']))
  rw [hwj]
  have hgd : l.getD c0.toNat noStepD = x0 := by rw [List.getD_eq_getElem?_getD, hx0]; rfl
  have htk : ((r.cites.take (j + 1)).map fun c => (l.getD c.toNat noStepD).atom) = ((r.cites.take j).map fun c => (l.getD c.toNat noStepD).atom) ++ [x0.re.atom] := by rw [List.take_add_one, hcr', List.map_append, ← hgd]; rfl
  rw [← htk] at e2
  have s1 : Holds h' S0 (.row (r.atom.cells ++ [.int .i64 r.clause, .slice ca cn cc]) 41 false) := s0'
  (rw [hI2]; with_reducible refine loopN_normal (m := _) ?_ ⟨j + 1, _, C', _, rfl, z, ⟨rfl, by omega, zi, e0, s1, e2, hC4.2, hC4.1⟩, junk (by kernel_rfl)⟩; omega)
theorem ok_trim (l : List StepD) (goals : List AtomD) (v u : Value) (h : Heap) (hl : Sl Rep.step h v l) (hg : Sl Rep.atom h u goals) (hn : l.length ≤ 40) (hc : ∀ s ∈ l, s.cites.length ≤ 1000) (hr : AheadD l → ∀ r ∈ reasonsD l, PlainR r) (hgl : goals.length ≤ 10) (hgi : ∀ x ∈ goals, x.light = true) (hgp : AllP goals) (K : Value → Heap → Prop)
    (h0k : ¬ (AheadD l ∧ PlacedD (reasonsD l)) → ∀ h', Ext h h' → K (.tuple #[.slice none 0 0, .int .i64 2]) h')
    (h2k : AheadD l → PlacedD (reasonsD l) → (∃ g ∈ goals, hasR (reasonsD l) g = false) → ∀ h', Ext h h' → K (.tuple #[.slice none 0 0, .int .i64 13]) h')
    (h3k : AheadD l → PlacedD (reasonsD l) → (∀ g ∈ goals, hasR (reasonsD l) g = true) → ∀ h' w out, Ext h h' → NeedsOf (reasonsD l) goals out → Sl Rep.step h' w (derD (keptD (reasonsD l) out)) → K (.tuple #[w, .int .i64 0]) h') : Ok Try.prog tab ov 61 [v, u] h K := by
  rw [lay_nil h]
  have z := Ext.refl h
  have hva := vSelf v
  have hvu := vSelf u
  refine Ok.into rfl tab_fn61 (bodyF N61) rfl (m := 19) rfl ?_
  repeat' ( simp -implicitDefEqProofs only [syms, symx, seval, c61, hva])
  refine ok_reasons l v _ (hl.lay _ _) (by omega) hc _ (fun ha h' w x sw => ?_) (fun ha h' x => ?_)
  rotate_left
  · ((skip); replace z := z.overW x (by (try simp only [lsz]); omega); rw [lay_nil h'])
    repeat' ( simp -implicitDefEqProofs only [syms, symx, seval, c61])
    exact h0k (fun hh => ha hh.1) _ (z.upW _ _ (by omega))
  ((skip); replace z := z.overW x (by (try simp only [lsz]); omega); rw [lay_nil h'])
  have hvw := vSelf w
  repeat' ( simp -implicitDefEqProofs only [syms, symx, seval, c61, hvw, hvu])
  refine ok_derive (reasonsD l) goals w u _ (sw.lay _ _) ((hg.mono z.inc).lay _ _) (by unfold reasonsD; rw [List.length_map]; exact hn) (hr ha) hgl hgi hgp _ (fun hpl h' x => ?_) (fun hpl hfd h' x => ?_) (fun hpl hfd h' ws out x hN s => ?_)
  · ((skip); replace z := z.overW x (by (try simp only [lsz]); omega); rw [lay_nil h'])
    repeat' ( simp -implicitDefEqProofs only [syms, symx, seval, c61])
    exact h0k (fun hh => hpl hh.2) _ (z.upW _ _ (by omega))
  · ((skip); replace z := z.overW x (by (try simp only [lsz]); omega); rw [lay_nil h'])
    repeat' ( simp -implicitDefEqProofs only [syms, symx, seval, c61])
    exact h2k ha hpl hfd _ (z.upW _ _ (by omega))
  · ((skip); replace z := z.overW x (by (try simp only [lsz]); omega); rw [lay_nil h'])
    have hvs := vSelf ws
    repeat' ( simp -implicitDefEqProofs only [syms, symx, seval, c61, hvs])
    exact h3k ha hpl hfd _ ws out (z.upW _ _ (by omega)) hN (s.lay _ _)
end Go.Proofs.Ytompindebndddaa
