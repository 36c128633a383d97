/- The code of some functions, node by node, for simp. Written by a program (mkcode.py). No condition. -/
import Derived.Test.YtompindebndddaaG30
import Derived.Test.YtompindebndddaaG27
import Derived.KernelRfl
import Derived.Test.YtompindebndddaaZE8
import Derived.Test.YtompindebndddaaG31
import Derived.Test.YtompindebndddaaG45
import Derived.Test.YtompindebndddaaG46
namespace Go.Proofs.Ytompindebndddaa
open Go.Am
set_option linter.unusedVariables false
set_option linter.unusedSimpArgs false
set_option maxRecDepth 100000
set_option maxHeartbeats 0
noncomputable def N32 := nodeF Try.f32
noncomputable def x32 := PLift.up (by have c := factsOf N32 Try.f32; simp only [codeOf, Try.f32, Option.getD_some, factsF, opsF, opsX, ncount, wantG, dstL, quietS, List.append_eq, List.cons_append, List.nil_append, seval] at c; exact nd c <| nd @ix23 <| nd @ld39 <| nd @ln23 <| @fi32)
theorem c32 : type_of% x32.down := x32.down
end Go.Proofs.Ytompindebndddaa
namespace Go.Proofs.Ytompindebndddaa
open Go.Am
set_option linter.unusedSimpArgs false
set_option linter.unusedVariables false
set_option maxRecDepth 100000
set_option maxHeartbeats 0
theorem ok_sameAtoms (l m : List AtomD) (v u : Value) (h : Heap) (hl : Sl Rep.atom h v l) (hm : Sl Rep.atom h u m) (hs : l.length ≤ 1000) (hs2 : m.length ≤ 1000) (K : Value → Heap → Prop)
    (hk : ∀ h', Ext h h' → K (.bool (decide (l = m))) h') : Ok Try.prog tab ov 32 [v, u] h K := by
  rw [lay_nil h]
  have z := Ext.refl h
  have hln := fun (hh : Heap) => hl.lenA ds23 hh
  have hlm := fun (hh : Heap) => hm.lenA ds23 hh
  refine Ok.into rfl tab_fn32 (bodyF N32) rfl (m := 24) rfl ?_
  simp -implicitDefEqProofs only [syms, symx, seval, c32, hln, hlm]
  refine forkN (fun hne => ?_) (fun heq => ?_)
  · rw [decide_eq_false (show ¬ l = m from fun e => by subst e; exact hne rfl)] at hk
    repeat' ( simp -implicitDefEqProofs only [syms, symx, seval, c32])
    exact hk _ (z.upW _ _ (by omega))
  have hlen : l.length = m.length := by omega
  repeat' ( simp -implicitDefEqProofs only [syms, symx, seval, c32])
  obtain ⟨I1, hI1⟩ : ∃ I : Nat → Env → Heap → Prop, I = (fun n e h' => ∃ (i : Nat) (h1 : Heap), h' = h1.lay [] h1.low ∧ Ext h h1 ∧ (n = l.length - i ∧ i ≤ l.length ∧ l.take i = m.take i) ∧ ∃ J : Nat → Value, e = (v :: u :: jr J 2 3 (.int .i64 i :: jr J 6 20 ([])))) := ⟨_, rfl⟩
  refine W_loopN I1 _ (by rw [hI1]; exact ⟨0, _, rfl, z, ⟨rfl, by omega, rfl⟩, junk (by kernel_rfl)⟩) ?_
  intro n e h' hin
  rw [hI1] at hin
  obtain ⟨i, h1', rfl, z, hinv, J, rfl⟩ := hin
  obtain ⟨rfl, hi, htk⟩ := hinv
  have hw : IntKind.i64.wrap ((i : Int) + 1) = ((i + 1 : Nat) : Int) := by rw [wrap_i64 (by omega) (by omega)]; omega
  simp -implicitDefEqProofs only [syms, symx, seval, c32, hln]
  refine forkD (fun hlt => ?_) (fun hlt => ?_)
  rotate_left
  · rw [List.take_of_length_le (by omega), List.take_of_length_le (by omega)] at htk
    rw [decide_eq_true htk] at hk
    repeat' ( simp -implicitDefEqProofs only [syms, symx, seval, c32])
    exact hk _ (z.upW _ _ (by omega))
  obtain ⟨r, hr, hr'⟩ := amElem (l := l) (i := i) (by omega)
  obtain ⟨s, hs, hs'⟩ := amElem (l := m) (i := i) (by omega)
  simp -implicitDefEqProofs only [syms, symx, seval, c32]
  repeat' ((first | ((with_reducible  apply forkNP ) <;> intro _) | with_reducible_and_instances refine ixa_at (hl.mono z.inc) ds23 sz39 (by omega) hr (fun p hp => ?_) | with_reducible_and_instances refine ixa_at (hm.mono z.inc) ds23 sz39 (by omega) hs (fun p hp => ?_) | with_reducible_and_instances refine lda hp ag39 sz39 ?_ | with_reducible refine drawN (by simp only [c32]) (z.upW _ _ (by omega)) ?_ | ((with_reducible refine ⟨z.grw.lay _ _, ?_⟩); (intro _ h' zz x _); (try simp only [lay_lay, List.append_nil] at x); (replace z := zz); (clear zz); rw [lay_nil h'])) <;> simp -implicitDefEqProofs only [syms, symx, seval, c32, bin_atomN])
  · have hne : ¬ r = s := by assumption
    rw [decide_eq_false (show ¬ l = m from fun e => by
      subst e
      rw [hr'] at hs'
      exact hne (Option.some.inj hs'))] at hk
    exact hk _ (z.upW _ _ (by omega))
  · have he : r = s := by assumption
    rw [hw]
    (rw [hI1]; with_reducible refine loopN_normal (m := _) ?_ ⟨i + 1, _, rfl, z, ⟨rfl, by omega, by rw [List.take_add_one, List.take_add_one, hr', hs', htk, he]⟩, junk (by kernel_rfl)⟩; omega)
theorem ok_lightSteps (l : List StepD) (v : Value) (h : Heap) (hl : Sl Rep.step h v l) (K : Value → Heap → Prop) (h1k : l.length ≤ 40 → (∀ s ∈ l, s.atom.light = true ∧ s.cites.length ≤ 20) → ∀ h', Ext h h' → K (.bool true) h') (h2k : ∀ h', Ext h h' → K (.bool false) h') : Ok Try.prog tab ov 62 [v] h K := by
  rw [lay_nil h]
  have z := Ext.refl h
  have hva := vSelf v
  have hlv := fun (hh : Heap) => hl.lenA ds84 hh
  refine Ok.into rfl tab_fn62 (bodyF N62) rfl (m := 28) rfl ?_
  repeat' (first | simp -implicitDefEqProofs only [syms, symx, seval, c62, hva, hlv] | ((with_reducible  apply forkD ) <;> intro _))
  · exact h2k _ (z.upW _ _ (by omega))
  obtain ⟨I1, hI1⟩ : ∃ I : Nat → Env → Heap → Prop, I = (fun n e h' => ∃ (i : Nat) (h1 : Heap), h' = h1.lay [] h1.low ∧ Ext h h1 ∧ (n = l.length - i ∧ i ≤ l.length ∧ (∀ s ∈ l.take i, s.atom.light = true ∧ s.cites.length ≤ 20)) ∧ ∃ J : Nat → Value, e = (v :: jr J 1 2 (.int .i64 i :: jr J 4 25 ([])))) := ⟨_, rfl⟩
  refine W_loopN I1 _ (by rw [hI1]; exact ⟨0, _, rfl, z, ⟨rfl, by omega, by simp⟩, junk (by kernel_rfl)⟩) ?_
  intro n e h' hin
  rw [hI1] at hin
  obtain ⟨i, h1', rfl, z, hinv, J, rfl⟩ := hin
  obtain ⟨rfl, hi, hall⟩ := hinv
  have hw : IntKind.i64.wrap ((i : Int) + 1) = ((i + 1 : Nat) : Int) := by rw [wrap_i64 (by omega) (by omega)]; omega
  simp -implicitDefEqProofs only [syms, symx, seval, c62, hva, hlv]
  refine forkD (fun hlt => ?_) (fun hlt => ?_)
  rotate_left
  · rw [List.take_of_length_le (by omega)] at hall
    repeat' ( simp -implicitDefEqProofs only [syms, symx, seval, c62])
    exact h1k (by omega) hall _ (z.upW _ _ (by omega))
  obtain ⟨r, hr, hr'⟩ := amElem (l := l) (i := i) (by omega)
  repeat' (first | simp -implicitDefEqProofs only [syms, symx, seval, c62, hva] | with_reducible_and_instances refine ixp_at (hl.mono z.inc) ds84 sz90 (by omega) hr (fun p b hb hp => ?_) | with_reducible_and_instances refine fdr0 hp fa90_0 (fun q hq => ?_) | with_reducible_and_instances refine lda hq ag39 sz39 ?_)
  refine ok_light r.re.atom _ _ (fun hlx h' x => ?_) (fun hlx h' x => ?_)
  rotate_left
  · ((skip); replace z := z.overW x (by (try simp only [lsz]); omega); rw [lay_nil h'])
    repeat' (first | simp -implicitDefEqProofs only [syms, symx, seval, c62, Bool.not_false] | ((with_reducible_and_instances apply unop_not); (· rfl)))
    exact h2k _ (z.upW _ _ (by omega))
  ((skip); replace z := z.overW x (by (try simp only [lsz]); omega); rw [lay_nil h'])
  repeat' (first | simp -implicitDefEqProofs only [syms, symx, seval, c62, Bool.not_true, hva] | ((with_reducible  apply forkD ) <;> intro _) | with_reducible_and_instances refine ixp_at (hl.mono z.inc) ds84 sz90 (by omega) hr (fun p b hb hp => ?_) | with_reducible_and_instances refine fdr2 hp fa90_2 (fun q hq => ?_) | with_reducible_and_instances refine ld_one hq ag32 ?_ | with_reducible_and_instances refine ln_rule hb ds32 ?_ | ((with_reducible_and_instances apply unop_not); (· rfl)))
  · exact h2k _ (z.upW _ _ (by omega))
  rw [hw]
  (rw [hI1]; with_reducible refine loopN_normal (m := _) ?_ ⟨i + 1, _, rfl, z, ⟨rfl, by omega, take_all (i := i) (P := fun s : StepD => s.atom.light = true ∧ s.cites.length ≤ 20) hr' hall ⟨by simpa only [StepD.re] using hlx, by omega⟩⟩, junk (by kernel_rfl)⟩; omega)
theorem ok_ownI (l : List Int) (v : Value) (h : Heap) (hl : Sl Rep.int h v l) (hn : l.length ≤ 1000000) (K : Value → Heap → Prop) (hk : ∀ w A h', Ext h h' → Ow Rep.int h h' 3 A w l → (A < h.size → False) → K w h') : Ok Try.prog tab ov 127 [v] h K := by
  rw [lay_nil h]
  refine Ok.into rfl tab_fn127 (bodyF N127) rfl (m := 5) rfl ?_
  simp -implicitDefEqProofs only [syms, symx, seval, c127, w_append, sty32]
  obtain ⟨news, hs, hsr⟩ := src_sl (A := h.size + 1) (r := Rep.int) (by decide) (hl.lay [.row [] 3 false] h.low) (fun cs y hr => hr)
  have f : Ow Rep.int h (h.lay [.row [] 3 false] h.low) 3 (h.size + 1) (.slice (some ⟨h.size + 0, 0, none⟩) 0 0) [] :=
    .inl ⟨by omega, rfl, .inr ⟨h.size + 0, 0, rfl, by omega, by rw [lay_size]; simp, [], 3, false, by rw [lay_get]; rfl⟩⟩
  obtain ⟨w, h', A', e1, e2, e3, e4, e5⟩ := app_ow (t := 32) ds32 tab_info3 rfl (by decide) (by rw [lay_size]; omega) f hs hsr (by simp only [List.length_nil]; omega) (by simp only [List.length_nil]; omega)
  rw [e1]
  simp -implicitDefEqProofs only [syms, symx, seval, c127]
  exact hk _ _ _ ((Ext.refl h).stepW e3 (by omega) (by omega)) e2 (by omega)
theorem bld_step3 (a : AtomD) (k : Int) (b : Option Addr) (n c : Nat) : buildA tab 90 [(0, a.val), (1, .int .i64 k), (2, .slice b n c)] = some (.agg ⟨a.cells ++ [.int .i64 k, .slice b n c]⟩) := by kernel_rfl
theorem bld_reason3 (a : AtomD) (k : Int) (b : Option Addr) (n c : Nat) : buildA tab 41 [(0, a.val), (1, .int .i64 k), (2, .slice b n c)] = some (.agg ⟨a.cells ++ [.int .i64 k, .slice b n c]⟩) := by kernel_rfl
theorem ok_ownReasons (l : List ReasonD) (v : Value) (h : Heap) (hl : Sl Rep.reason h v l) (hn : l.length ≤ 1000) (hbn : ∀ c ∈ l, c.body.length ≤ 1000) (K : Value → Heap → Prop) (hk : ∀ w h', Ext h h' → Sl Rep.reason h' w l → K w h') : Ok Try.prog tab ov 64 [v] h K := by
  rw [lay_nil h]
  have z := Ext.refl h
  refine Ok.into rfl tab_fn64 (bodyF N64) rfl (m := 31) rfl ?_
  simp -implicitDefEqProofs only [syms, symx, seval, c64]
  obtain ⟨I1, hI1⟩ : ∃ I : Nat → Env → Heap → Prop, I = (fun n e h' => ∃ (i : Nat) (w : Value) (A : Nat) (h1 : Heap), h' = h1.lay [] h1.low ∧ Ext h h1 ∧ (n = l.length - i ∧ i ≤ l.length ∧ Ow Rep.reason h h1 41 A w (l.take i)) ∧ ∃ J : Nat → Value, e = (v :: jr J 1 2 (w :: .int .i64 i :: jr J 5 27 ([])))) := ⟨_, rfl⟩
  refine W_loopN I1 _ (by rw [hI1]; exact ⟨0, .slice none 0 0, h.size, _, rfl, z, ⟨rfl, by omega, Ow.nil (Nat.le_refl _)⟩, junk (by kernel_rfl)⟩) ?_
  intro n e h' hin
  rw [hI1] at hin
  obtain ⟨i, w, A, h1', rfl, z, hinv, J, rfl⟩ := hin
  obtain ⟨rfl, hi, ho⟩ := hinv
  have hw : IntKind.i64.wrap ((i : Int) + 1) = ((i + 1 : Nat) : Int) := by rw [wrap_i64 (by omega) (by omega)]; omega
  have hz := z.size
  simp -implicitDefEqProofs only [syms, symx, seval, c64]
  repeat' ((first | ((with_reducible  apply forkD ) <;> intro _) | with_reducible_and_instances refine ln_rule hl ds24 ?_) <;> simp -implicitDefEqProofs only [syms, symx, seval, c64])
  rotate_left
  · rw [List.take_of_length_le (by omega)] at ho
    exact hk _ _ (z.upW _ _ (by omega)) ((ho.sl (by decide)).lay _ _)
  obtain ⟨r, hr, hr'⟩ := amElem (l := l) (i := i) (by assumption)
  have hrb := hbn r (List.mem_of_getElem? hr')
  have hlt := ho.lt
  repeat' ((first | with_reducible refine drawN (by simp only [c64]) (z.upW _ _ (by omega)) ?_ | with_reducible_and_instances refine ixr_at (hl.mono z.inc) ds24 sz41 (by omega) hr (fun p bd hbd hp => ?_) | with_reducible_and_instances refine fdr0 hp fa41_0 (fun p hp => ?_) | with_reducible_and_instances refine fdr1 hp fa41_1 (fun p hp => ?_) | with_reducible_and_instances refine fdr2 hp fa41_2 (fun q hq => ?_) | with_reducible_and_instances refine lda hp ag39 sz39 ?_ | with_reducible_and_instances refine ld_one hp ag3 ?_ | with_reducible_and_instances refine ld_one hq ag23 ?_) <;> simp -implicitDefEqProofs only [syms, symx, seval, c64])
  refine ok_own _ _ _ (hbd.lay _ _) (by omega) _ (fun w2 A2 h' x o2 hA2 => ?_)
  (( ((with_reducible refine KOpsX_call ?_ ?_ ?_); (· exact (by (try simp only [lsz]); have := z.size; omega)); (·  exact x )) ); replace z := z.overW x (by (try simp only [lsz]); omega); (try replace ho := ho.over x); rw [lay_nil h'])
  obtain ⟨wa, wn, wc, rfl⟩ := o2.slice
  simp -implicitDefEqProofs only [syms, symx, seval, c64, bld_reason3, fill_step]
  refine KOpsX_alloc (by have := z.size; omega) (by omega) ?_
  simp -implicitDefEqProofs only [syms, symx, seval, c64, w_append, sty24]
  have hlen : (l.take i).length ≤ 1000 := by rw [List.length_take]; omega
  have hHs : (h'.lay [Blk.row (r.atom.cells ++ [.int .i64 r.clause, Value.slice wa wn wc]) 41 false] (h'.size + 1)).size = h'.size + 1 := by rw [lay_size]; rfl
  have hzz := z.size
  have hzx : h1'.size ≤ h'.size := by have := x.size; rw [lay_size] at this; simpa using this
  obtain ⟨A', hoA, hA'⟩ : ∃ A', Ow Rep.reason h (h'.lay [Blk.row (r.atom.cells ++ [.int .i64 r.clause, Value.slice wa wn wc]) 41 false] (h'.size + 1)) 41 A' w (l.take i) ∧ (A' < h1'.size ∨ h'.size + 1 ≤ A') := by
    rcases hlt with hlt | hlt
    · exact ⟨A, ho.mono (Inc.lay _ _ _), .inl hlt⟩
    · rw [hlt] at ho
      refine ⟨h'.size + 1, ?_, .inr (Nat.le_refl _)⟩
      rw [hlt]
      exact (ho.mono (Inc.lay _ _ _)).any _ (by omega)
  have hR : Rep.reason.R (kill A' (h'.lay [Blk.row (r.atom.cells ++ [.int .i64 r.clause, Value.slice wa wn wc]) 41 false] (h'.size + 1))) (r.atom.cells ++ [.int .i64 r.clause, Value.slice wa wn wc]) r :=
    ⟨_, rfl, (o2.mono (Inc.lay _ _ _)).under (by decide) (fun _ _ _ _ h => h) (by rw [lay_size, hHs]; simpa using hA')⟩
  obtain ⟨hs, hsr⟩ := src_row (r := Rep.reason) (c := 1) (by decide) (show (h'.lay [Blk.row (r.atom.cells ++ [.int .i64 r.clause, Value.slice wa wn wc]) 41 false] (h'.size + 1)).get (h'.size + 0) = some (.row (r.atom.cells ++ [.int .i64 r.clause, Value.slice wa wn wc]) 41 false) by rw [lay_get]; rfl) hR
  obtain ⟨w', h'', A'', e1, e2, e3, e4, e5⟩ := app_ow (t := 24) ds24 tab_info41 rfl (by decide) (by rw [hHs]; omega) hoA hs hsr (by omega) (by omega)
  have hfA := hoA.fresh
  rw [e1]
  simp -implicitDefEqProofs only [syms, symx, seval, c64]
  refine KOpsX_chg (A := A') (by kernel_rfl) (by rw [lay_size]; omega) (by omega) (by simpa only [lay_lay, lay_size, List.append_nil, List.length_cons, List.length_nil, Nat.zero_add] using e3) ?_
  replace z := (z.upW [Blk.row (r.atom.cells ++ [.int .i64 r.clause, Value.slice wa wn wc]) 41 false] (h'.size + 1) (by omega)).step e3 hfA
  have htk : l.take (i + 1) = l.take i ++ [r] := by rw [List.take_add_one, hr']; rfl
  rw [← htk] at e2
  clear ho o2 hoA
  rw [lay_nil h'']
  repeat' (first | simp -implicitDefEqProofs only [syms, symx, seval, c64] | ((with_reducible refine ⟨z.grw.lay _ _, ?_⟩); (intro _ h' zz x _); (try simp only [lay_lay, List.append_nil] at x); (try replace e2 := e2.over x); (replace z := zz); (clear zz); rw [lay_nil h']))
  rw [hw]
  (rw [hI1]; with_reducible refine loopN_normal (m := _) ?_ ⟨i + 1, _, _, _, rfl, z, ⟨rfl, by omega, e2⟩, junk (by kernel_rfl)⟩; omega)
theorem ok_ownSteps (l : List StepD) (v : Value) (h : Heap) (hl : Sl Rep.step h v l) (hn : l.length ≤ 1000) (hbn : ∀ c ∈ l, c.cites.length ≤ 1000) (K : Value → Heap → Prop) (hk : ∀ w h', Ext h h' → Sl Rep.step h' w l → K w h') : Ok Try.prog tab ov 66 [v] h K := by
  rw [lay_nil h]
  have z := Ext.refl h
  refine Ok.into rfl tab_fn66 (bodyF N66) rfl (m := 31) rfl ?_
  simp -implicitDefEqProofs only [syms, symx, seval, c66]
  obtain ⟨I1, hI1⟩ : ∃ I : Nat → Env → Heap → Prop, I = (fun n e h' => ∃ (i : Nat) (w : Value) (A : Nat) (h1 : Heap), h' = h1.lay [] h1.low ∧ Ext h h1 ∧ (n = l.length - i ∧ i ≤ l.length ∧ Ow Rep.step h h1 90 A w (l.take i)) ∧ ∃ J : Nat → Value, e = (v :: jr J 1 2 (w :: .int .i64 i :: jr J 5 27 ([])))) := ⟨_, rfl⟩
  refine W_loopN I1 _ (by rw [hI1]; exact ⟨0, .slice none 0 0, h.size, _, rfl, z, ⟨rfl, by omega, Ow.nil (Nat.le_refl _)⟩, junk (by kernel_rfl)⟩) ?_
  intro n e h' hin
  rw [hI1] at hin
  obtain ⟨i, w, A, h1', rfl, z, hinv, J, rfl⟩ := hin
  obtain ⟨rfl, hi, ho⟩ := hinv
  have hw : IntKind.i64.wrap ((i : Int) + 1) = ((i + 1 : Nat) : Int) := by rw [wrap_i64 (by omega) (by omega)]; omega
  have hz := z.size
  simp -implicitDefEqProofs only [syms, symx, seval, c66]
  repeat' ((first | ((with_reducible  apply forkD ) <;> intro _) | with_reducible_and_instances refine ln_rule hl ds84 ?_) <;> simp -implicitDefEqProofs only [syms, symx, seval, c66])
  rotate_left
  · rw [List.take_of_length_le (by omega)] at ho
    exact hk _ _ (z.upW _ _ (by omega)) ((ho.sl (by decide)).lay _ _)
  obtain ⟨r, hr, hr'⟩ := amElem (l := l) (i := i) (by assumption)
  have hrb := hbn r (List.mem_of_getElem? hr')
  have hlt := ho.lt
  repeat' ((first | with_reducible refine drawN (by simp only [c66]) (z.upW _ _ (by omega)) ?_ | with_reducible_and_instances refine ixp_at (hl.mono z.inc) ds84 sz90 (by omega) hr (fun p bd hbd hp => ?_) | with_reducible_and_instances refine fdr0 hp fa90_0 (fun p hp => ?_) | with_reducible_and_instances refine fdr1 hp fa90_1 (fun p hp => ?_) | with_reducible_and_instances refine fdr2 hp fa90_2 (fun q hq => ?_) | with_reducible_and_instances refine lda hp ag39 sz39 ?_ | with_reducible_and_instances refine ld_one hp ag3 ?_ | with_reducible_and_instances refine ld_one hq ag32 ?_) <;> simp -implicitDefEqProofs only [syms, symx, seval, c66])
  refine ok_ownI _ _ _ (hbd.lay _ _) (by omega) _ (fun w2 A2 h' x o2 hA2 => ?_)
  (( ((with_reducible refine KOpsX_call ?_ ?_ ?_); (· exact (by (try simp only [lsz]); have := z.size; omega)); (·  exact x )) ); replace z := z.overW x (by (try simp only [lsz]); omega); (try replace ho := ho.over x); rw [lay_nil h'])
  obtain ⟨wa, wn, wc, rfl⟩ := o2.slice
  simp -implicitDefEqProofs only [syms, symx, seval, c66, bld_step3, fill_step]
  refine KOpsX_alloc (by have := z.size; omega) (by omega) ?_
  simp -implicitDefEqProofs only [syms, symx, seval, c66, w_append, sty84]
  have hlen : (l.take i).length ≤ 1000 := by rw [List.length_take]; omega
  have hHs : (h'.lay [Blk.row (r.re.atom.cells ++ [.int .i64 r.re.clause, Value.slice wa wn wc]) 90 false] (h'.size + 1)).size = h'.size + 1 := by rw [lay_size]; rfl
  have hzz := z.size
  have hzx : h1'.size ≤ h'.size := by have := x.size; rw [lay_size] at this; simpa using this
  obtain ⟨A', hoA, hA'⟩ : ∃ A', Ow Rep.step h (h'.lay [Blk.row (r.re.atom.cells ++ [.int .i64 r.re.clause, Value.slice wa wn wc]) 90 false] (h'.size + 1)) 90 A' w (l.take i) ∧ (A' < h1'.size ∨ h'.size + 1 ≤ A') := by
    rcases hlt with hlt | hlt
    · exact ⟨A, ho.mono (Inc.lay _ _ _), .inl hlt⟩
    · rw [hlt] at ho
      refine ⟨h'.size + 1, ?_, .inr (Nat.le_refl _)⟩
      rw [hlt]
      exact (ho.mono (Inc.lay _ _ _)).any _ (by omega)
  have hR : Rep.step.R (kill A' (h'.lay [Blk.row (r.re.atom.cells ++ [.int .i64 r.re.clause, Value.slice wa wn wc]) 90 false] (h'.size + 1))) (r.re.atom.cells ++ [.int .i64 r.re.clause, Value.slice wa wn wc]) r :=
    ⟨_, rfl, (o2.mono (Inc.lay _ _ _)).under (by decide) (fun _ _ _ _ h => h) (by rw [lay_size, hHs]; simpa using hA')⟩
  obtain ⟨hs, hsr⟩ := src_row (r := Rep.step) (c := 1) (by decide) (show (h'.lay [Blk.row (r.re.atom.cells ++ [.int .i64 r.re.clause, Value.slice wa wn wc]) 90 false] (h'.size + 1)).get (h'.size + 0) = some (.row (r.re.atom.cells ++ [.int .i64 r.re.clause, Value.slice wa wn wc]) 90 false) by rw [lay_get]; rfl) hR
  obtain ⟨w', h'', A'', e1, e2, e3, e4, e5⟩ := app_ow (t := 84) ds84 tab_info90 rfl (by decide) (by rw [hHs]; omega) hoA hs hsr (by omega) (by omega)
  have hfA := hoA.fresh
  rw [e1]
  simp -implicitDefEqProofs only [syms, symx, seval, c66]
  refine KOpsX_chg (A := A') (by kernel_rfl) (by rw [lay_size]; omega) (by omega) (by simpa only [lay_lay, lay_size, List.append_nil, List.length_cons, List.length_nil, Nat.zero_add] using e3) ?_
  replace z := (z.upW [Blk.row (r.re.atom.cells ++ [.int .i64 r.re.clause, Value.slice wa wn wc]) 90 false] (h'.size + 1) (by omega)).step e3 hfA
  have htk : l.take (i + 1) = l.take i ++ [r] := by rw [List.take_add_one, hr']; rfl
  rw [← htk] at e2
  clear ho o2 hoA
  rw [lay_nil h'']
  repeat' (first | simp -implicitDefEqProofs only [syms, symx, seval, c66] | ((with_reducible refine ⟨z.grw.lay _ _, ?_⟩); (intro _ h' zz x _); (try simp only [lay_lay, List.append_nil] at x); (try replace e2 := e2.over x); (replace z := zz); (clear zz); rw [lay_nil h']))
  rw [hw]
  (rw [hI1]; with_reducible refine loopN_normal (m := _) ?_ ⟨i + 1, _, _, _, rfl, z, ⟨rfl, by omega, e2⟩, junk (by kernel_rfl)⟩; omega)
theorem ok_sameIntS (l : List Int) (v u : Value) (h : Heap) (hl : Sl Rep.int h v l) (hu : Sl Rep.int h u l) (hs : l.length ≤ 1000) (K : Value → Heap → Prop)
    (hk : ∀ h', Ext h h' → K (.bool true) h') : Ok Try.prog tab ov 25 [v, u] h K := by
  rw [lay_nil h]
  have z := Ext.refl h
  refine Ok.into rfl tab_fn25 (bodyF N25) rfl (m := 24) rfl ?_
  simp -implicitDefEqProofs only [syms, symx, seval, c25]
  repeat' ((first | with_reducible_and_instances refine ln_rule (hl.mono z.inc) ds32 ?_ | with_reducible_and_instances refine ln_rule (hu.mono z.inc) ds32 ?_) <;> simp -implicitDefEqProofs only [syms, symx, seval, c25, bne_self_eq_false])
  obtain ⟨I1, hI1⟩ : ∃ I : Nat → Env → Heap → Prop, I = (fun n e h' => ∃ (i : Nat) (h1 : Heap), h' = h1.lay [] h1.low ∧ Ext h h1 ∧ (n = l.length - i ∧ i ≤ l.length) ∧ ∃ J : Nat → Value, e = (v :: u :: jr J 2 3 (.int .i64 i :: jr J 6 20 ([])))) := ⟨_, rfl⟩
  refine W_loopN I1 _ (by rw [hI1]; exact ⟨0, _, rfl, z, ⟨rfl, by omega⟩, junk (by kernel_rfl)⟩) ?_
  intro n e h' hin
  rw [hI1] at hin
  obtain ⟨i, h1', rfl, z, hinv, J, rfl⟩ := hin
  obtain ⟨rfl, hi⟩ := hinv
  have hw : i < l.length → IntKind.i64.wrap ((i : Int) + 1) = ((i + 1 : Nat) : Int) := fun _ => by rw [wrap_i64 (by omega) (by omega)]; omega
  repeat' (first | simp -implicitDefEqProofs only [syms, symx, seval, c25] | ((with_reducible  apply forkD ) <;> intro _) | with_reducible_and_instances refine ln_rule (hl.mono z.inc) ds32 ?_)
  rotate_left
  · exact hk _ (z.upW _ _ (by omega))
  obtain ⟨r, hr, hr'⟩ := amElem (l := l) (i := i) (by assumption)
  repeat' ((first | with_reducible refine drawN (by simp only [c25]) (z.upW _ _ (by omega)) ?_ | with_reducible_and_instances refine ixi_at (hl.mono z.inc) ds32 sz3 (by omega) hr (fun p hp => ?_) | with_reducible_and_instances refine ixi_at (hu.mono z.inc) ds32 sz3 (by omega) hr (fun p hp => ?_) | with_reducible_and_instances refine ld_one hp ag3 ?_ | ((with_reducible refine ⟨z.grw.lay _ _, ?_⟩); (intro _ h' zz x _); (try simp only [lay_lay, List.append_nil] at x); (try replace e2 := e2.over x); (replace z := zz); (clear zz); rw [lay_nil h'])) <;> simp -implicitDefEqProofs only [syms, symx, seval, c25, bne_self_eq_false])
  rw [hw (by omega)]
  (rw [hI1]; with_reducible refine loopN_normal (m := _) ?_ ⟨i + 1, _, rfl, z, ⟨rfl, by omega⟩, junk (by kernel_rfl)⟩; omega)
theorem bin_atomS (a : AtomD) : binA Try.prog tab .neq 39 a.val a.val = some (.bool false) := by
  rw [bin_atomN, decide_eq_true rfl]
  rfl
theorem ok_sameSteps (l m : List StepD) (v u : Value) (h : Heap) (hl : Sl Rep.step h v l) (hm : Sl Rep.step h u m) (hn : l.length ≤ 1000) (hlm : l = m) (hc : ∀ s ∈ l, s.cites.length ≤ 1000) (K : Value → Heap → Prop) (hk : ∀ h', Ext h h' → K (.bool true) h') : Ok Try.prog tab ov 69 [v, u] h K := by
  subst hlm
  rw [lay_nil h]
  have z := Ext.refl h
  have hva := vSelf v
  have hua := vSelf u
  have hlv := fun (hh : Heap) => hl.lenA ds84 hh
  have hlu := fun (hh : Heap) => hm.lenA ds84 hh
  refine Ok.into rfl tab_fn69 (bodyF N69) rfl (m := 53) rfl ?_
  repeat' (first | simp -implicitDefEqProofs only [syms, symx, seval, c69, hva, hua, hlv, hlu] | ((with_reducible  apply forkN ) <;> intro _))
  · exact absurd rfl (by assumption)
  obtain ⟨I1, hI1⟩ : ∃ I : Nat → Env → Heap → Prop, I = (fun n e h' => ∃ (i : Nat) (h1 : Heap), h' = h1.lay [] h1.low ∧ Ext h h1 ∧ (n = l.length - i ∧ i ≤ l.length) ∧ ∃ J : Nat → Value, e = (v :: u :: jr J 2 3 (.int .i64 i :: jr J 6 49 ([])))) := ⟨_, rfl⟩
  refine W_loopN I1 _ (by rw [hI1]; exact ⟨0, _, rfl, z, ⟨rfl, by omega⟩, junk (by kernel_rfl)⟩) ?_
  intro n e h' hin
  rw [hI1] at hin
  obtain ⟨i, h1', rfl, z, hinv, J, rfl⟩ := hin
  obtain ⟨rfl, hi⟩ := hinv
  have hw : IntKind.i64.wrap ((i : Int) + 1) = ((i + 1 : Nat) : Int) := by rw [wrap_i64 (by omega) (by omega)]; omega
  simp -implicitDefEqProofs only [syms, symx, seval, c69, hva, hlv]
  refine forkD (fun hlt => ?_) (fun hlt => ?_)
  rotate_left
  · repeat' ( simp -implicitDefEqProofs only [syms, symx, seval, c69])
    exact hk _ (z.upW _ _ (by omega))
  obtain ⟨r, hr, hr'⟩ := amElem (l := l) (i := i) (by omega)
  have hrc := hc r (List.mem_of_getElem? hr')
  repeat' (first | simp -implicitDefEqProofs only [syms, symx, seval, c69, hva, hua, bin_atomS] | with_reducible refine drawN (by simp only [c69]) (z.upW _ _ (by omega)) ?_ | ((with_reducible  apply forkN ) <;> intro _) | with_reducible_and_instances refine ixp_at (hl.mono z.inc) ds84 sz90 (by omega) hr (fun p b hb hp => ?_) | with_reducible_and_instances refine ixp_at (hm.mono z.inc) ds84 sz90 (by omega) hr (fun p b2 hb2 hp => ?_) | with_reducible_and_instances refine fdr0 hp fa90_0 (fun q hq => ?_) | with_reducible_and_instances refine lda hq ag39 sz39 ?_ | with_reducible_and_instances refine fdr1 hp fa90_1 (fun q hq => ?_) | with_reducible_and_instances refine ld_one hq ag3 ?_ | with_reducible_and_instances refine fdr2 hp fa90_2 (fun q hq => ?_) | with_reducible_and_instances refine ld_one hq ag32 ?_ | ((with_reducible refine ⟨z.grw.lay _ _, ?_⟩); (intro _ h' zz x _); (try simp only [lay_lay, List.append_nil] at x); (replace z := zz); (clear zz); rw [lay_nil h']))
  · exact absurd rfl (by assumption)
  refine ok_sameIntS r.cites _ _ _ (Sl.lay (by assumption) _ _) (Sl.lay (by assumption) _ _) hrc _ (fun h' x => ?_)
  (( ((with_reducible refine KOpsX_call ?_ ?_ ?_); (· exact (by (try simp only [lsz]); have := z.size; omega)); (·  exact x )) ); replace z := z.overW x (by (try simp only [lsz]); omega); rw [lay_nil h'])
  repeat' (first | simp -implicitDefEqProofs only [syms, symx, seval, c69, Bool.not_true] | ((with_reducible_and_instances apply unop_not); (· rfl)) | ((with_reducible refine ⟨z.grw.lay _ _, ?_⟩); (intro _ h' zz x _); (try simp only [lay_lay, List.append_nil] at x); (replace z := zz); (clear zz); rw [lay_nil h']))
  rw [hw]
  (rw [hI1]; with_reducible refine loopN_normal (m := _) ?_ ⟨i + 1, _, rfl, z, ⟨rfl, by omega⟩, junk (by kernel_rfl)⟩; omega)
theorem ok_sameReasons (l m : List ReasonD) (v u : Value) (h : Heap) (hl : Sl Rep.reason h v l) (hm : Sl Rep.reason h u m) (hn : l.length ≤ 1000) (hlm : l = m) (hc : ∀ s ∈ l, s.body.length ≤ 1000) (K : Value → Heap → Prop) (hk : ∀ h', Ext h h' → K (.bool true) h') : Ok Try.prog tab ov 70 [v, u] h K := by
  subst hlm
  rw [lay_nil h]
  have z := Ext.refl h
  have hva := vSelf v
  have hua := vSelf u
  have hlv := fun (hh : Heap) => hl.lenA ds24 hh
  have hlu := fun (hh : Heap) => hm.lenA ds24 hh
  refine Ok.into rfl tab_fn70 (bodyF N70) rfl (m := 53) rfl ?_
  repeat' (first | simp -implicitDefEqProofs only [syms, symx, seval, c70, hva, hua, hlv, hlu] | ((with_reducible  apply forkN ) <;> intro _))
  · exact absurd rfl (by assumption)
  obtain ⟨I1, hI1⟩ : ∃ I : Nat → Env → Heap → Prop, I = (fun n e h' => ∃ (i : Nat) (h1 : Heap), h' = h1.lay [] h1.low ∧ Ext h h1 ∧ (n = l.length - i ∧ i ≤ l.length) ∧ ∃ J : Nat → Value, e = (v :: u :: jr J 2 3 (.int .i64 i :: jr J 6 49 ([])))) := ⟨_, rfl⟩
  refine W_loopN I1 _ (by rw [hI1]; exact ⟨0, _, rfl, z, ⟨rfl, by omega⟩, junk (by kernel_rfl)⟩) ?_
  intro n e h' hin
  rw [hI1] at hin
  obtain ⟨i, h1', rfl, z, hinv, J, rfl⟩ := hin
  obtain ⟨rfl, hi⟩ := hinv
  have hw : IntKind.i64.wrap ((i : Int) + 1) = ((i + 1 : Nat) : Int) := by rw [wrap_i64 (by omega) (by omega)]; omega
  simp -implicitDefEqProofs only [syms, symx, seval, c70, hva, hlv]
  refine forkD (fun hlt => ?_) (fun hlt => ?_)
  rotate_left
  · repeat' ( simp -implicitDefEqProofs only [syms, symx, seval, c70])
    exact hk _ (z.upW _ _ (by omega))
  obtain ⟨r, hr, hr'⟩ := amElem (l := l) (i := i) (by omega)
  have hrc := hc r (List.mem_of_getElem? hr')
  repeat' (first | simp -implicitDefEqProofs only [syms, symx, seval, c70, hva, hua, bin_atomS] | with_reducible refine drawN (by simp only [c70]) (z.upW _ _ (by omega)) ?_ | ((with_reducible  apply forkN ) <;> intro _) | with_reducible_and_instances refine ixr_at (hl.mono z.inc) ds24 sz41 (by omega) hr (fun p b hb hp => ?_) | with_reducible_and_instances refine ixr_at (hm.mono z.inc) ds24 sz41 (by omega) hr (fun p b2 hb2 hp => ?_) | with_reducible_and_instances refine fdr0 hp fa41_0 (fun q hq => ?_) | with_reducible_and_instances refine lda hq ag39 sz39 ?_ | with_reducible_and_instances refine fdr1 hp fa41_1 (fun q hq => ?_) | with_reducible_and_instances refine ld_one hq ag3 ?_ | with_reducible_and_instances refine fdr2 hp fa41_2 (fun q hq => ?_) | with_reducible_and_instances refine ld_one hq ag23 ?_ | ((with_reducible refine ⟨z.grw.lay _ _, ?_⟩); (intro _ h' zz x _); (try simp only [lay_lay, List.append_nil] at x); (replace z := zz); (clear zz); rw [lay_nil h']))
  · exact absurd rfl (by assumption)
  refine ok_sameAtoms r.body r.body _ _ _ (Sl.lay (by assumption) _ _) (Sl.lay (by assumption) _ _) hrc hrc _ (fun h' x => ?_)
  (( ((with_reducible refine KOpsX_call ?_ ?_ ?_); (· exact (by (try simp only [lsz]); have := z.size; omega)); (·  exact x )) ); replace z := z.overW x (by (try simp only [lsz]); omega); rw [lay_nil h'])
  rw [decide_eq_true rfl]
  repeat' (first | simp -implicitDefEqProofs only [syms, symx, seval, c70, Bool.not_true] | ((with_reducible_and_instances apply unop_not); (· rfl)) | ((with_reducible refine ⟨z.grw.lay _ _, ?_⟩); (intro _ h' zz x _); (try simp only [lay_lay, List.append_nil] at x); (replace z := zz); (clear zz); rw [lay_nil h']))
  rw [hw]
  (rw [hI1]; with_reducible refine loopN_normal (m := _) ?_ ⟨i + 1, _, rfl, z, ⟨rfl, by omega⟩, junk (by kernel_rfl)⟩; omega)
theorem ok_atomsRef (l : List StepD) (v : Value) (h : Heap) (hl : Sl Rep.step h v l) (hn : l.length ≤ 1000) (K : Value → Heap → Prop) (hk : ∀ w h', Ext h h' → Sl Rep.atom h' w (l.map (·.atom)) → K w h') : Ok Try.prog tab ov 63 [v] h K := by
  rw [lay_nil h]
  have z := Ext.refl h
  have hva := vSelf v
  have hlv := fun (hh : Heap) => hl.lenA ds84 hh
  refine Ok.into rfl tab_fn63 (bodyF N63) rfl (m := 19) rfl ?_
  simp -implicitDefEqProofs only [syms, symx, seval, c63, hva, hlv]
  obtain ⟨I1, hI1⟩ : ∃ I : Nat → Env → Heap → Prop, I = (fun n e h' => ∃ (i : Nat) (w : Value) (A : Nat) (h1 : Heap), h' = h1.lay [] h1.low ∧ Ext h h1 ∧ (n = l.length - i ∧ i ≤ l.length ∧ Ow Rep.atom h h1 39 A w ((l.take i).map (·.atom))) ∧ ∃ J : Nat → Value, e = (v :: jr J 1 2 (w :: .int .i64 i :: jr J 5 15 ([])))) := ⟨_, rfl⟩
  refine W_loopN I1 _ (by rw [hI1]; exact ⟨0, .slice none 0 0, h.size, _, rfl, z, ⟨rfl, by omega, Ow.nil (Nat.le_refl _)⟩, junk (by kernel_rfl)⟩) ?_
  intro n e h' hin
  rw [hI1] at hin
  obtain ⟨i, w, A, h1', rfl, z, hinv, J, rfl⟩ := hin
  obtain ⟨rfl, hi, ho⟩ := hinv
  have hw : IntKind.i64.wrap ((i : Int) + 1) = ((i + 1 : Nat) : Int) := by rw [wrap_i64 (by omega) (by omega)]; omega
  have hz := z.size
  have hvw := vSelf w
  simp -implicitDefEqProofs only [syms, symx, seval, c63, hva, hlv]
  refine forkD (fun hlt => ?_) (fun hlt => ?_)
  rotate_left
  · rw [List.take_of_length_le (by omega)] at ho
    repeat' ( simp -implicitDefEqProofs only [syms, symx, seval, c63, hvw])
    exact hk _ _ (z.upW _ _ (by omega)) ((ho.sl (by decide)).lay _ _)
  obtain ⟨r, hr, hr'⟩ := amElem (l := l) (i := i) (by omega)
  repeat' (first | simp -implicitDefEqProofs only [syms, symx, seval, c63, hva, hvw] | with_reducible_and_instances refine ixp_at (hl.mono z.inc) ds84 sz90 (by omega) hr (fun p b hb hp => ?_) | with_reducible_and_instances refine fdr0 hp fa90_0 (fun q hq => ?_) | with_reducible_and_instances refine lda hq ag39 sz39 ?_)
  simp -implicitDefEqProofs only [syms, symx, seval, c63, fill_atom, w_append, sty23]
  have hlen : ((l.take i).map (·.atom)).length ≤ 1000 := by rw [List.length_map, List.length_take]; omega
  have hHs : (h1'.lay [Blk.row r.re.atom.cells 39 false] h1'.low).size = h1'.size + 1 := by rw [lay_size]; rfl
  obtain ⟨hs1, hsr⟩ := src_row (r := Rep.atom) (A := A) (c := 1) (y := r.re.atom) (by decide) (show (h1'.lay [Blk.row r.re.atom.cells 39 false] h1'.low).get (h1'.size + 0) = some (.row r.re.atom.cells 39 false) by rw [lay_get]; rfl) rfl
  obtain ⟨w', h2, A', e1, e2, e3, e4, e5⟩ := app_ow (t := 23) ds23 tab_info39 rfl (by decide) (by rw [hHs]; omega) (ho.mono (Inc.lay _ _ _)) hs1 hsr (by omega) (by omega)
  have hfA := ho.fresh
  replace z := (z.upW [Blk.row r.re.atom.cells 39 false] h1'.low (by omega)).step e3 hfA
  rw [e1, lay_nil h2]
  have htk : (l.take (i + 1)).map (·.atom) = (l.take i).map (·.atom) ++ [r.re.atom] := by rw [List.take_add_one, hr', List.map_append]; rfl
  rw [← htk] at e2
  clear ho
  repeat' ( simp -implicitDefEqProofs only [syms, symx, seval, c63])
  rw [hw]
  (rw [hI1]; with_reducible refine loopN_normal (m := _) ?_ ⟨i + 1, _, _, _, rfl, z, ⟨rfl, by omega, e2⟩, junk (by kernel_rfl)⟩; omega)
theorem ok_atomsProof (l : List StepD) (v : Value) (h : Heap) (hl : Sl Rep.step h v l) (hn : l.length ≤ 1000) (K : Value → Heap → Prop) (hk : ∀ w h', Ext h h' → Sl Rep.atom h' w (l.map (·.atom)) → K w h') : Ok Try.prog tab ov 71 [v] h K := by
  rw [lay_nil h]
  have z := Ext.refl h
  have hva := vSelf v
  have hlv := fun (hh : Heap) => hl.lenA ds84 hh
  refine Ok.into rfl tab_fn71 (bodyF N71) rfl (m := 18) rfl ?_
  repeat' ( simp -implicitDefEqProofs only [syms, symx, seval, c71, hva, hlv])
  obtain ⟨I1, hI1⟩ : ∃ I : Nat → Env → Heap → Prop, I = (fun n e h' => ∃ (i : Nat) (w : Value) (A : Nat) (h1 : Heap), h' = h1.lay [] h1.low ∧ Ext h h1 ∧ (n = l.length - i ∧ i ≤ l.length ∧ Ow Rep.atom h h1 39 A w ((l.take i).map (·.atom))) ∧ ∃ J : Nat → Value, e = (v :: jr J 1 2 (w :: jr J 4 2 (v :: .int .i64 l.length :: .int .i64 i :: jr J 9 10 ([]))))) := ⟨_, rfl⟩
  refine W_loopN I1 _ (by rw [hI1]; exact ⟨0, .slice none 0 0, h.size, _, rfl, z, ⟨rfl, by omega, Ow.nil (Nat.le_refl _)⟩, junk (by kernel_rfl)⟩) ?_
  intro n e h' hin
  rw [hI1] at hin
  obtain ⟨i, w, A, h1', rfl, z, hinv, J, rfl⟩ := hin
  obtain ⟨rfl, hi, ho⟩ := hinv
  have hw : IntKind.i64.wrap ((i : Int) + 1) = ((i + 1 : Nat) : Int) := by rw [wrap_i64 (by omega) (by omega)]; omega
  have hz := z.size
  have hvw := vSelf w
  simp -implicitDefEqProofs only [syms, symx, seval, c71, hva, hlv]
  refine forkD (fun hlt => ?_) (fun hlt => ?_)
  rotate_left
  · rw [List.take_of_length_le (by omega)] at ho
    repeat' ( simp -implicitDefEqProofs only [syms, symx, seval, c71, hvw])
    exact hk _ _ (z.upW _ _ (by omega)) ((ho.sl (by decide)).lay _ _)
  obtain ⟨r, hr, hr'⟩ := amElem (l := l) (i := i) (by omega)
  repeat' (first | simp -implicitDefEqProofs only [syms, symx, seval, c71, hva] | with_reducible_and_instances refine ixp_at (hl.mono z.inc) ds84 sz90 (by omega) hr (fun p b hb hp => ?_) | with_reducible_and_instances refine ldr hp ag90 sz90 ?_)
  have hall13 := one_reP (a := r.re.atom) (n := r.re.clause) hb.one
  repeat' ( simp -implicitDefEqProofs only [syms, symx, seval, c71, lay_set, storeO_row, List.all_cons, List.all_nil, Am.one, Bool.and_true, Bool.true_and, Bool.and_self, List.set_cons_zero, List.set_cons_succ, st4, st3, st9, st36, st39, st47, st41, st192, st90, len_reP, hall13, dec13P, if_true, ↓cut_re13P, ↓cut_re0P, agg_atom, valE_atom, hvw])
  simp -implicitDefEqProofs only [syms, symx, seval, c71, fill_atom, w_append, sty23]
  have hlen : ((l.take i).map (·.atom)).length ≤ 1000 := by rw [List.length_map, List.length_take]; omega
  obtain ⟨H, hH⟩ : ∃ H, H = h1'.lay [Blk.row (r.re.atom.cells ++ [.int .i64 r.re.clause, b]) 90 false, Blk.row r.re.atom.cells 39 false] (min h1'.low (h1'.size + 0)) := ⟨_, rfl⟩
  have hHs : H.size = h1'.size + 2 := by rw [hH, lay_size]; rfl
  obtain ⟨hs1, hsr⟩ := src_row (r := Rep.atom) (A := A) (c := 1) (y := r.re.atom) (by decide) (show H.get (h1'.size + 1) = some (.row r.re.atom.cells 39 false) by rw [hH, lay_get]; rfl) rfl
  have hoH : Ow Rep.atom h H 39 A w ((l.take i).map (·.atom)) := by rw [hH]; exact ho.mono (Inc.lay _ _ _)
  obtain ⟨w', h2, A', e1, e2, e3, e4, e5⟩ := app_ow (t := 23) ds23 tab_info39 rfl (by decide) (by rw [hHs]; omega) hoH hs1 hsr (by omega) (by omega)
  have hfA := ho.fresh
  have zH : Ext h H := by rw [hH]; exact z.upW _ _ (by omega)
  replace z := zH.step e3 hfA
  rw [← hH, e1, lay_nil h2]
  have htk : (l.take (i + 1)).map (·.atom) = (l.take i).map (·.atom) ++ [r.re.atom] := by rw [List.take_add_one, hr', List.map_append]; rfl
  rw [← htk] at e2
  clear ho hoH
  repeat' ( simp -implicitDefEqProofs only [syms, symx, seval, c71])
  rw [hw]
  (rw [hI1]; with_reducible refine loopN_normal (m := _) ?_ ⟨i + 1, _, _, _, rfl, z, ⟨rfl, by omega, e2⟩, junk (by kernel_rfl)⟩; omega)
end Go.Proofs.Ytompindebndddaa
