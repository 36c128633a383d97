/- The code of some functions, node by node, for simp. Written by a program (mkcode.py). No condition. -/
import Derived.Test.YtompindebndddaaG26
import Derived.Test.YtompindebndddaaG22
import Derived.KernelRfl
import Derived.Test.YtompindebndddaaG28
import Derived.Test.YtompindebndddaaG15
import Derived.Test.YtompindebndddaaGView
import Derived.Test.YtompindebndddaaG36
import Derived.Test.YtompindebndddaaZX2
import Derived.Test.YtompindebndddaaRows
namespace Go.Proofs.Ytompindebndddaa
open Go.Am
set_option linter.unusedVariables false
set_option linter.unusedSimpArgs false
set_option maxRecDepth 100000
set_option maxHeartbeats 0
noncomputable def N153 := nodeF Try.f153
noncomputable def x153 := PLift.up (by have c := factsOf N153 Try.f153; simp only [codeOf, Try.f153, Option.getD_some, factsF, opsF, opsX, ncount, wantG, dstL, quietS, List.append_eq, List.cons_append, List.nil_append, seval] at c; exact nd c <| nd @ix60 <| nd @ld9 <| nd @ln60 <| @fi153)
theorem c153 : type_of% x153.down := x153.down
noncomputable def N110 := nodeF Try.f110
noncomputable def x110 := PLift.up (by have c := factsOf N110 Try.f110; simp only [codeOf, Try.f110, Option.getD_some, factsF, opsF, opsX, ncount, wantG, dstL, quietS, List.append_eq, List.cons_append, List.nil_append, seval] at c; exact nd c <| @fi110)
theorem c110 : type_of% x110.down := x110.down
noncomputable def N105 := nodeF Try.f105
noncomputable def x105 := PLift.up (by have c := factsOf N105 Try.f105; simp only [codeOf, Try.f105, Option.getD_some, factsF, opsF, opsX, ncount, wantG, dstL, quietS, List.append_eq, List.cons_append, List.nil_append, seval] at c; exact nd c <| nd @fa66_0 <| nd @ld60 <| @fi105)
theorem c105 : type_of% x105.down := x105.down
noncomputable def N106 := nodeF Try.f106
noncomputable def x106 := PLift.up (by have c := factsOf N106 Try.f106; simp only [codeOf, Try.f106, Option.getD_some, factsF, opsF, opsX, ncount, wantG, dstL, quietS, List.append_eq, List.cons_append, List.nil_append, seval] at c; exact nd c <| nd @ix62 <| nd @ld73 <| nd @ln62 <| @fi106)
theorem c106 : type_of% x106.down := x106.down
noncomputable def N107 := nodeF Try.f107
noncomputable def x107 := PLift.up (by have c := factsOf N107 Try.f107; simp only [codeOf, Try.f107, Option.getD_some, factsF, opsF, opsX, ncount, wantG, dstL, quietS, List.append_eq, List.cons_append, List.nil_append, seval] at c; exact nd c <| nd @fa73_0 <| nd @ld9 <| @fi107)
theorem c107 : type_of% x107.down := x107.down
noncomputable def N39 := nodeF Try.f39
noncomputable def x39 := PLift.up (by have c := factsOf N39 Try.f39; simp only [codeOf, Try.f39, Option.getD_some, factsF, opsF, opsX, ncount, wantG, dstL, quietS, List.append_eq, List.cons_append, List.nil_append, seval] at c; exact nd c <| nd @bs60 <| nd @fa66_2 <| nd @fa73_1 <| nd @ix62 <| nd @ld60 <| nd @ld62 <| nd @ld66 <| nd @ld9 <| @fi39)
theorem c39 : type_of% x39.down := x39.down
noncomputable def N41 := nodeF Try.f41
noncomputable def x41 := PLift.up (by have c := factsOf N41 Try.f41; simp only [codeOf, Try.f41, Option.getD_some, factsF, opsF, opsX, ncount, wantG, dstL, quietS, List.append_eq, List.cons_append, List.nil_append, seval] at c; exact nd c <| nd @ld66 <| @fi41)
theorem c41 : type_of% x41.down := x41.down
noncomputable def N6 := nodeF Try.f6
noncomputable def x6 := PLift.up (by have c := factsOf N6 Try.f6; simp only [codeOf, Try.f6, Option.getD_some, factsF, opsF, opsX, ncount, wantG, dstL, quietS, List.append_eq, List.cons_append, List.nil_append, seval] at c; exact nd c <| nd @fa66_2 <| nd @fa73_0 <| nd @fa73_1 <| nd @ix60 <| nd @ix62 <| nd @ld60 <| nd @ld62 <| nd @ld66 <| nd @ld9 <| nd @ln60 <| nd @ln62 <| nd @ln9 <| @fi6)
theorem c6 : type_of% x6.down := x6.down
end Go.Proofs.Ytompindebndddaa
namespace Go.Proofs.Ytompindebndddaa
open Go.Am
set_option linter.unusedSimpArgs false
set_option linter.unusedVariables false
set_option maxRecDepth 100000
set_option maxHeartbeats 0
theorem ok_indexS (l : List ByteArray) (v : Value) (a : ByteArray) (h : Heap) (hl : Sl Rep.str h v l) (hs : l.length ≤ 1000) (K : Value → Heap → Prop)
    (hk : ∀ h', Ext h h' → K (.int .i64 (idxP (fun x => decide (a = x)) l)) h') : Ok Try.prog tab ov 153 [v, .string a] h K := by
  rw [lay_nil h]
  have z := Ext.refl h
  refine Ok.into rfl tab_fn153 (bodyF N153) rfl (m := 17) rfl ?_
  simp -implicitDefEqProofs only [syms, symx, seval, c153]
  repeat' ((first | ((with_reducible first | apply forkD | apply forkB | apply forkN | apply forkNP | apply forkNot) <;> intro _) | with_reducible_and_instances refine ln_rule hl ds60 ?_) <;> simp -implicitDefEqProofs only [syms, symx, seval, c153])
  obtain ⟨I1, hI1⟩ : ∃ I : Nat → Env → Heap → Prop, I = (fun n e h' => ∃ (i : Nat) (h1 : Heap), h' = h1.lay [] h1.low ∧ Ext h h1 ∧ (n = l.length - i ∧ i ≤ l.length ∧ (∀ x ∈ l.take i, decide (a = x) = false)) ∧ ∃ J : Nat → Value, e = (v :: .string a :: jr J 2 5 (.int .i64 l.length :: .int .i64 i :: jr J 9 10 ([])))) := ⟨_, rfl⟩
  refine W_loopN I1 _ (by rw [hI1]; exact ⟨0, _, rfl, z, ⟨rfl, by omega, by simp⟩, junk (by kernel_rfl)⟩) ?_
  intro n e h' hin
  rw [hI1] at hin
  obtain ⟨i, h1', rfl, z, hinv, J, rfl⟩ := hin
  obtain ⟨rfl, hi, hall⟩ := hinv
  have hw : IntKind.i64.wrap ((i : Int) + 1) = ((i + 1 : Nat) : Int) := by rw [wrap_i64 (by omega) (by omega)]; omega
  simp -implicitDefEqProofs only [syms, symx, seval, c153]
  refine forkD (fun hlt => ?_) (fun hlt => ?_)
  rotate_left
  · simp -implicitDefEqProofs only [syms, symx, seval, c153]
    rw [List.take_of_length_le (by omega)] at hall
    have := idx_none hall
    rw [this] at hk
    exact hk _ (z.upW _ _ (by omega))
  obtain ⟨r, hr, hr'⟩ := amElem (l := l) (i := i) (by omega)
  repeat' (first | simp -implicitDefEqProofs only [syms, symx, seval, c153] | ((with_reducible first | apply forkD | apply forkB | apply forkN | apply forkNP | apply forkNot) <;> intro _) | with_reducible_and_instances refine ixs_at (hl.mono z.inc) ds60 sz9 (by omega) hr (fun p hp => ?_) | with_reducible_and_instances refine ld_one hp ag9 ?_)
  · have hx : a = r := by assumption
    have := idx_found (p := fun x => decide (a = x)) hr' hall (decide_eq_true hx)
    rw [this] at hk
    exact hk _ (z.upW _ _ (by omega))
  · have hx : ¬ a = r := by assumption
    rw [hw]
    (rw [hI1]; with_reducible refine loopN_normal (m := _) ?_ ⟨i + 1, _, rfl, z, ⟨rfl, by omega, take_all (i := i) (P := fun x : ByteArray => decide (a = x) = false) hr' hall (decide_eq_false hx)⟩, junk (by kernel_rfl)⟩; omega)
theorem idx_hasS (l : List ByteArray) (a : ByteArray) : decide (idxP (fun x => decide (a = x)) l ≥ 0) = hasS l a := by
  rw [idx_any]
  unfold hasS
  congr 1
  funext x
  exact decide_eq_decide.2 ⟨Eq.symm, Eq.symm⟩
theorem ok_containsS (l : List ByteArray) (v : Value) (a : ByteArray) (h : Heap) (hl : Sl Rep.str h v l) (hs : l.length ≤ 1000) (K : Value → Heap → Prop)
    (hk : ∀ h', Ext h h' → K (.bool (hasS l a)) h') : Ok Try.prog tab ov 110 [v, .string a] h K := by
  refine Ok.into rfl tab_fn110 (bodyF N110) rfl (m := 7) rfl ?_
  simp -implicitDefEqProofs only [syms, symx, seval, c110]
  refine ok_indexS l v a h hl hs _ (fun h' x => ?_)
  simp -implicitDefEqProofs only [syms, symx, seval, c110, idx_hasS]
  refine forkT (fun hh => ?_) (fun hh => ?_)
  all_goals
    simp -implicitDefEqProofs only [syms, symx, seval, c110]
    rw [hh] at hk
    exact hk _ x
theorem ok_formedPrin (l : List ByteArray) (who : ByteArray) (p0 p1 p2 p5 p6 : Value) (q b : Int) (h : Heap) (hl : Sl Rep.str h p0 l) (hs : l.length ≤ 1000) (K : Value → Heap → Prop) (hk : ∀ h', Ext h h' → K (.bool (hasS l who)) h') : Ok Try.prog tab ov 105 [polVal p0 p1 p2 p5 p6 q b, .string who] h K := by
  rw [lay_nil h]
  have z := Ext.refl h
  have hva := vSelf p0
  refine Ok.into rfl tab_fn105 (bodyF N105) rfl (m := 7) rfl ?_
  repeat' (first | simp -implicitDefEqProofs only [syms, symx, seval, c105, cells_pol, pol0, hva] | ((with_reducible first | apply forkD | apply forkB | apply forkN | apply forkNP | apply forkNot) <;> intro _) | with_reducible_and_instances refine ixs_at (hl.mono z.inc) ds60 sz9 (by omega) hr (fun p hp => ?_) | with_reducible_and_instances refine ld_one hp ag9 ?_)
  refine ok_containsS l _ who _ (hl.lay _ _) hs _ (fun h' x => ?_)
  ((skip); replace z := z.overW x (by (try simp only [lsz]); omega); rw [lay_nil h'])
  repeat' (first | simp -implicitDefEqProofs only [syms, symx, seval, c105] | ((with_reducible first | apply forkD | apply forkB | apply forkN | apply forkNP | apply forkNot) <;> intro _) | with_reducible_and_instances refine ixs_at (hl.mono z.inc) ds60 sz9 (by omega) hr (fun p hp => ?_) | with_reducible_and_instances refine ld_one hp ag9 ?_)
  exact hk _ (z.upW _ _ (by omega))
theorem ok_indexClearF (l : List ClearD) (v fv : Value) (pr : ClearD → Bool) (h : Heap) (hl : Sl Rep.clear h v l) (hs : l.length ≤ 1000) (hpf : ∀ (x : ClearD) (b : Value) (hc : Heap) (K : Value → Heap → Prop), Ext h hc → (∀ h', Ext hc h' → K (.bool (pr x)) h') → callE Try.prog tab ov [.agg ⟨[.string x.who, b]⟩] hc K fv) (K : Value → Heap → Prop)
    (hk : ∀ h', Ext h h' → K (.int .i64 (idxP pr l)) h') : Ok Try.prog tab ov 106 [v, fv] h K := by
  rw [lay_nil h]
  have z := Ext.refl h
  refine Ok.into rfl tab_fn106 (bodyF N106) rfl (m := 17) rfl ?_
  simp -implicitDefEqProofs only [syms, symx, seval, c106]
  repeat' ((first | ((with_reducible first | apply forkD | apply forkB | apply forkN | apply forkNP | apply forkNot) <;> intro _) | with_reducible_and_instances refine ln_rule hl ds62 ?_) <;> simp -implicitDefEqProofs only [syms, symx, seval, c106])
  obtain ⟨I1, hI1⟩ : ∃ I : Nat → Env → Heap → Prop, I = (fun n e h' => ∃ (i : Nat) (h1 : Heap), h' = h1.lay [] h1.low ∧ Ext h h1 ∧ (n = l.length - i ∧ i ≤ l.length ∧ ∀ x ∈ l.take i, pr x = false) ∧ ∃ J : Nat → Value, e = (v :: fv :: jr J 2 5 (.int .i64 l.length :: .int .i64 i :: jr J 9 10 ([])))) := ⟨_, rfl⟩
  refine W_loopN I1 _ (by rw [hI1]; exact ⟨0, _, rfl, z, ⟨rfl, by omega, by simp⟩, junk (by kernel_rfl)⟩) ?_
  intro n e h' hin
  rw [hI1] at hin
  obtain ⟨i, h1', rfl, z, hinv, J, rfl⟩ := hin
  obtain ⟨rfl, hi, hall⟩ := hinv
  have hw : IntKind.i64.wrap ((i : Int) + 1) = ((i + 1 : Nat) : Int) := by rw [wrap_i64 (by omega) (by omega)]; omega
  repeat' (first | simp -implicitDefEqProofs only [syms, symx, seval, c106] | ((with_reducible first | apply forkD | apply forkB | apply forkN | apply forkNP | apply forkNot) <;> intro _) | with_reducible_and_instances refine ln_rule hl ds62 ?_)
  rotate_left
  · rw [List.take_of_length_le (by omega)] at hall
    have := idx_none hall
    rw [this] at hk
    exact hk _ (z.upW _ _ (by omega))
  obtain ⟨r, hr, hr'⟩ := amElem (l := l) (i := i) (by assumption)
  repeat' ((first | ((with_reducible first | apply forkD | apply forkB | apply forkN | apply forkNP | apply forkNot) <;> intro _) | with_reducible_and_instances refine ixC_at (hl.mono z.inc) ds62 sz73 (by omega) hr (fun p b hb hp => ?_) | with_reducible_and_instances refine ldP hp ag73 sz73 ?_) <;> simp -implicitDefEqProofs only [syms, symx, seval, c106])
  refine hpf _ _ _ _ (z.upW _ _ (by omega)) (fun h' x => ?_)
  ((skip); replace z := z.overW x (by (try simp only [lsz]); omega); rw [lay_nil h'])
  cases hx : pr r
  rotate_left
  · simp -implicitDefEqProofs only [syms, symx, seval, c106]
    have := idx_found hr' hall hx
    rw [this] at hk
    exact hk _ (z.upW _ _ (by omega))
  · simp -implicitDefEqProofs only [syms, symx, seval, c106]
    rw [hw]
    (rw [hI1]; with_reducible refine loopN_normal (m := _) ?_ ⟨i + 1, _, rfl, z, ⟨rfl, by omega, take_all (i := i) (P := fun x : ClearD => pr x = false) hr' hall hx⟩, junk (by kernel_rfl)⟩; omega)
theorem ok_members1 (who : ByteArray) (x : ClearD) (b : Value) (A : Nat) (h : Heap) (q0 : Holds h A (.row [.string who] 9 false)) (K : Value → Heap → Prop)
    (hk : ∀ h', Ext h h' → K (.bool (decide (x.who = who))) h') : Ok Try.prog tab ov 107 [.agg ⟨[.string x.who, b]⟩, .pointer (some ⟨A, 0, none⟩)] h K := by
  rw [lay_nil h]
  have z := Ext.refl h
  refine Ok.into rfl tab_fn107 (bodyF N107) rfl (m := 6) rfl ?_
  simp -implicitDefEqProofs only [syms, symx, seval, c107]
  repeat' ((first | ((with_reducible first | apply forkD | apply forkB | apply forkN | apply forkNP | apply forkNot) <;> intro _) | with_reducible_and_instances refine ixC_at (hl.mono z.inc) ds62 sz73 (by omega) hr (fun p b hb hp => ?_) | with_reducible_and_instances refine ldP hp ag73 sz73 ?_) <;> simp -implicitDefEqProofs only [syms, symx, seval, c107, q0.lay])
  simp -implicitDefEqProofs only [syms, symx, seval, c107, q0.lay]
  refine forkD (fun hh => ?_) (fun hh => ?_)
  · simp -implicitDefEqProofs only [syms, symx, seval, c107]
    rw [decide_eq_true hh] at hk
    exact hk _ (z.upW _ _ (by omega))
  · simp -implicitDefEqProofs only [syms, symx, seval, c107]
    rw [decide_eq_false hh] at hk
    exact hk _ (z.upW _ _ (by omega))
theorem styV : srcTyA tab 60 60 = true := by kernel_rfl
def viewD (d : PolicyD) (who : ByteArray) : List ByteArray := if hasS d.principals who = true then membersD d who else []
theorem viewD_len {d : PolicyD} {who : ByteArray} (h : ∀ c ∈ d.clears, c.reads.length ≤ 40) : (viewD d who).length ≤ 41 := by
  unfold viewD
  split
  · rw [membersD_length]
    have := readsD_le (who := who) h
    omega
  · simp
theorem ok_members (d : PolicyD) (who : ByteArray) (p0 p1 p2 p5 p6 : Value) (q b : Int) (h : Heap) (hone : (polCells p0 p1 p2 p5 p6 q b).all Am.one = true) (hd : PolH h p0 p1 p2 p5 p6 d) (hps : d.principals.length ≤ 1000) (hcl : d.clears.length ≤ 1000) (hck : ClearsOk d.principals d.clears) (hrl : ∀ c ∈ d.clears, c.reads.length ≤ 40) (K : Value → Heap → Prop)
    (hk : ∀ w h', Ext h h' → Sl Rep.str h' w (viewD d who) → K w h') : Ok Try.prog tab ov 39 [polVal p0 p1 p2 p5 p6 q b, .string who] h K := by
  rw [lay_nil h]
  have z := Ext.refl h
  have hv2 := vSelf p2
  refine Ok.into rfl tab_fn39 (bodyF N39) rfl (m := 29) rfl ?_
  repeat' (first | simp -implicitDefEqProofs only [syms, symx, seval, c39, cells_pol, ↓cut_pol, agg_pol, valE_pol] | ((with_reducible first | apply forkD | apply forkB | apply forkN | apply forkNP | apply forkNot) <;> intro _) | with_reducible_and_instances refine ixC_at (hl.mono z.inc) ds62 sz73 (by omega) hr (fun p b hb hp => ?_) | with_reducible_and_instances refine ldP hp ag73 sz73 ?_ | ((with_reducible_and_instances apply unop_not); (· rfl)))
  refine ok_formedPrin d.principals who _ _ _ _ _ _ _ _ (hd.s0.lay _ _) hps _ (fun h' x => ?_)
  have q0 := Holds.top (i := 0) x rfl
  have e0 := Holds.top (i := 1) x rfl
  ((skip); replace z := z.overW x (by (try simp only [lsz]); omega); (try replace q0 := q0.over x); (try replace e0 := e0.over x); rw [lay_nil h'])
  cases hh : hasS d.principals who
  · repeat' (first | simp -implicitDefEqProofs only [syms, symx, seval, c39, Bool.not_false] | ((with_reducible first | apply forkD | apply forkB | apply forkN | apply forkNP | apply forkNot) <;> intro _) | with_reducible_and_instances refine ixC_at (hl.mono z.inc) ds62 sz73 (by omega) hr (fun p b hb hp => ?_) | with_reducible_and_instances refine ldP hp ag73 sz73 ?_ | ((with_reducible_and_instances apply unop_not); (· rfl)))
    refine hk _ _ (z.upW _ _ (by omega)) ?_
    unfold viewD
    rw [hh]
    exact .inl ⟨rfl, rfl⟩
  have hvw : viewD d who = membersD d who := by unfold viewD; rw [hh]; rfl
  rw [hvw] at hk
  have hz0 := z.size
  repeat' (first | simp -implicitDefEqProofs only [syms, symx, seval, c39, Bool.not_true, q0.lay, e0.lay, pol2, hv2] | ((with_reducible first | apply forkD | apply forkB | apply forkN | apply forkNP | apply forkNot) <;> intro _) | with_reducible_and_instances refine ixC_at (hl.mono z.inc) ds62 sz73 (by omega) hr (fun p b hb hp => ?_) | with_reducible_and_instances refine ldP hp ag73 sz73 ?_ | ((with_reducible_and_instances apply unop_not); (· rfl)))
  refine ok_indexClearF d.clears _ _ (fun c => decide (c.who = who)) _ ((hd.s2.mono z.inc).lay _ _) hcl (fun x b hc K' xe hk' => ?_) _ (fun h' x => ?_)
  · rw [callE_clos]
    exact ok_members1 who x b _ hc (e0.over xe) K' hk'
  have b0 := Holds.top (i := 0) x rfl
  ((skip); replace z := z.overW x (by (try simp only [lsz]); omega); (try replace q0 := q0.over x); (try replace e0 := e0.over x); (try replace b0 := b0.over x); rw [lay_nil h'])
  have hrd := readsD_le (who := who) hrl
  have hvb := vSelf p2
  rcases readsD_idx d.clears who with ⟨i, c, hi1, hi2, hi3⟩ | ⟨hi1, hi3⟩
  · rw [hi1]
    obtain ⟨c', hc, hc'⟩ := amElem (l := d.clears) (i := i) (by have := (List.getElem?_eq_some_iff.1 hi2).1; omega)
    cases hi2.symm.trans hc'
    repeat' (first | simp -implicitDefEqProofs only [syms, symx, seval, c39, q0.lay, pol2, hv2] | ((with_reducible first | apply forkD | apply forkB | apply forkN | apply forkNP | apply forkNot) <;> intro _) | with_reducible_and_instances refine ixC_at (hl.mono z.inc) ds62 sz73 (by omega) hr (fun p b hb hp => ?_) | with_reducible_and_instances refine ldP hp ag73 sz73 ?_ | ((with_reducible_and_instances apply unop_not); (· rfl)))
    rotate_left
    · exfalso; omega
    repeat' ((first | ((with_reducible first | apply forkD | apply forkB | apply forkN | apply forkNP | apply forkNot) <;> intro _) | with_reducible_and_instances refine ixC_at (hd.s2.mono z.inc) ds62 sz73 (by omega) hc (fun p b hb hp => ?_) | with_reducible_and_instances refine fdP1 hp fa73_1 (fun q hq => ?_) | with_reducible_and_instances refine ld_one hq ag60 ?_ | ((with_reducible_and_instances apply unop_not); (· rfl))) <;> simp -implicitDefEqProofs only [syms, symx, seval, c39, q0.lay, pol2, hv2])
    have hlo : c.reads.length ≤ 900 := by have := hrl c (List.mem_of_getElem? hi2); omega
    simp -implicitDefEqProofs only [syms, symx, seval, c39, w_append, styV]
    obtain ⟨wv, h2, A', e1, e2, e3, e4⟩ := app_who (T := tab) (t := 60) ds60 tab_info9 (by decide) (b0.on [] h'.low) (Sl.lay (by assumption) [] h'.low) hlo
    rw [e1, lay_nil h2]
    rw [← hi3] at e2
    have z2 := z.overW e3 (by omega)
    have hz2 := z.size
    have hA : h.size ≤ A' := by
      rcases e4 with e4 | e4
      · omega
      · rw [e4, lay_size]; omega
    clear e1 e3 e4
    rw [lay_nil h2] at e2
    replace z2 := z2.upW [] h2.low (by omega)
    repeat' (first | simp -implicitDefEqProofs only [syms, symx, seval, c39] | ((with_reducible first | apply forkD | apply forkB | apply forkN | apply forkNP | apply forkNot) <;> intro _) | with_reducible_and_instances refine ixC_at (hd.s2.mono z.inc) ds62 sz73 (by omega) hc (fun p b hb hp => ?_) | with_reducible_and_instances refine fdP1 hp fa73_1 (fun q hq => ?_) | with_reducible_and_instances refine ld_one hq ag60 ?_ | ((with_reducible_and_instances apply unop_not); (· rfl)))
    obtain ⟨h3, s1, s2, s3⟩ := sort_strRow e2 (by simp) (by simp only [List.length_cons]; omega)
    have z3 := z2.step s3 hA
    refine Ok.over (g := sortSA) rfl s1 ?_
    rw [lay_nil h3]
    rw [lay_nil h3] at s2 z3
    repeat' (first | simp -implicitDefEqProofs only [syms, symx, seval, c39] | ((with_reducible first | apply forkD | apply forkB | apply forkN | apply forkNP | apply forkNot) <;> intro _) | with_reducible_and_instances refine ixC_at (hd.s2.mono z.inc) ds62 sz73 (by omega) hc (fun p b hb hp => ?_) | with_reducible_and_instances refine fdP1 hp fa73_1 (fun q hq => ?_) | with_reducible_and_instances refine ld_one hq ag60 ?_ | ((with_reducible_and_instances apply unop_not); (· rfl)))
    obtain ⟨h4, c1, c2, c3⟩ := comp_strRow s2 (by have := membersD_length d who; intro e; unfold membersD at this; rw [e] at this; simp at this; omega) (by rw [sortS_length, List.length_cons]; omega) (membersD_nodup hck)
    have z4 := z3.step c3 hA
    refine Ok.over (g := compSA) rfl c1 ?_
    rw [lay_nil h4]
    rw [lay_nil h4] at c2 z4
    simp -implicitDefEqProofs only [syms, symx, seval, c39]
    exact hk _ _ z4 (c2.sl (by rw [sortS_length, List.length_cons]; omega))
  · rw [hi1]
    have e2 := (show ∀ {N : Nat}, Holds h' N (.row [.string who] 9 false) → StrRow h' N 9 (.slice (some ⟨N, 0, none⟩) 1 1) (who :: readsD d.clears who) from fun q => by rw [hi3]; exact ⟨1, rfl, .inl ⟨by have := G_big; omega, Nat.le_refl _⟩, q⟩) b0
    have z2 := z.upW [] h'.low (by omega)
    rw [lay_nil h'] at e2
    repeat' (first | simp -implicitDefEqProofs only [syms, symx, seval, c39] | ((with_reducible first | apply forkD | apply forkB | apply forkN | apply forkNP | apply forkNot) <;> intro _) | with_reducible_and_instances refine ixC_at (hd.s2.mono z.inc) ds62 sz73 (by omega) hc (fun p b hb hp => ?_) | with_reducible_and_instances refine fdP1 hp fa73_1 (fun q hq => ?_) | with_reducible_and_instances refine ld_one hq ag60 ?_ | ((with_reducible_and_instances apply unop_not); (· rfl)))
    obtain ⟨h3, s1, s2, s3⟩ := sort_strRow e2 (by simp) (by simp only [List.length_cons]; omega)
    have z3 := z2.step s3 (by omega)
    refine Ok.over (g := sortSA) rfl s1 ?_
    rw [lay_nil h3]
    rw [lay_nil h3] at s2 z3
    repeat' (first | simp -implicitDefEqProofs only [syms, symx, seval, c39] | ((with_reducible first | apply forkD | apply forkB | apply forkN | apply forkNP | apply forkNot) <;> intro _) | with_reducible_and_instances refine ixC_at (hd.s2.mono z.inc) ds62 sz73 (by omega) hc (fun p b hb hp => ?_) | with_reducible_and_instances refine fdP1 hp fa73_1 (fun q hq => ?_) | with_reducible_and_instances refine ld_one hq ag60 ?_ | ((with_reducible_and_instances apply unop_not); (· rfl)))
    obtain ⟨h4, c1, c2, c3⟩ := comp_strRow s2 (by have := membersD_length d who; intro e; unfold membersD at this; rw [e] at this; simp at this; omega) (by rw [sortS_length, List.length_cons]; omega) (membersD_nodup hck)
    have z4 := z3.step c3 (by omega)
    refine Ok.over (g := compSA) rfl c1 ?_
    rw [lay_nil h4]
    rw [lay_nil h4] at c2 z4
    simp -implicitDefEqProofs only [syms, symx, seval, c39]
    exact hk _ _ z4 (c2.sl (by rw [sortS_length, List.length_cons]; omega))
theorem ok_sees (d : PolicyD) (who other : ByteArray) (p0 p1 p2 p5 p6 : Value) (q b : Int) (h : Heap) (hone : (polCells p0 p1 p2 p5 p6 q b).all Am.one = true) (hd : PolH h p0 p1 p2 p5 p6 d) (hps : d.principals.length ≤ 1000) (hcl : d.clears.length ≤ 1000) (hck : ClearsOk d.principals d.clears) (hrl : ∀ c ∈ d.clears, c.reads.length ≤ 40) (K : Value → Heap → Prop)
    (hk : ∀ h', Ext h h' → K (.bool (hasS (viewD d who) other)) h') : Ok Try.prog tab ov 41 [polVal p0 p1 p2 p5 p6 q b, .string who, .string other] h K := by
  rw [lay_nil h]
  have z := Ext.refl h
  refine Ok.into rfl tab_fn41 (bodyF N41) rfl (m := 9) rfl ?_
  repeat' (first | simp -implicitDefEqProofs only [syms, symx, seval, c41, cells_pol, ↓cut_pol, agg_pol, valE_pol] | ((with_reducible first | apply forkD | apply forkB | apply forkN | apply forkNP | apply forkNot) <;> intro _) | with_reducible_and_instances refine ixC_at (hd.s2.mono z.inc) ds62 sz73 (by omega) hc (fun p b hb hp => ?_) | with_reducible_and_instances refine fdP1 hp fa73_1 (fun q hq => ?_) | with_reducible_and_instances refine ld_one hq ag60 ?_)
  refine ok_members d who _ _ _ _ _ _ _ _ hone (hd.lay _ _) hps hcl hck hrl _ (fun w h' x hs => ?_)
  ((skip); replace z := z.overW x (by (try simp only [lsz]); omega); rw [lay_nil h'])
  have hvw := vSelf w
  repeat' (first | simp -implicitDefEqProofs only [syms, symx, seval, c41, hvw] | ((with_reducible first | apply forkD | apply forkB | apply forkN | apply forkNP | apply forkNot) <;> intro _) | with_reducible_and_instances refine ixC_at (hd.s2.mono z.inc) ds62 sz73 (by omega) hc (fun p b hb hp => ?_) | with_reducible_and_instances refine fdP1 hp fa73_1 (fun q hq => ?_) | with_reducible_and_instances refine ld_one hq ag60 ?_)
  refine ok_containsS (viewD d who) w other _ (hs.lay _ _) (by have := viewD_len (who := who) hrl; omega) _ (fun h' x => ?_)
  ((skip); replace z := z.overW x (by (try simp only [lsz]); omega); rw [lay_nil h'])
  repeat' (first | simp -implicitDefEqProofs only [syms, symx, seval, c41] | ((with_reducible first | apply forkD | apply forkB | apply forkN | apply forkNP | apply forkNot) <;> intro _) | with_reducible_and_instances refine ixC_at (hd.s2.mono z.inc) ds62 sz73 (by omega) hc (fun p b hb hp => ?_) | with_reducible_and_instances refine fdP1 hp fa73_1 (fun q hq => ?_) | with_reducible_and_instances refine ld_one hq ag60 ?_)
  exact hk _ (z.upW _ _ (by omega))
theorem clrs_clears {ps : List ByteArray} {l : List ClearD} (h : ClrsOk ps l) : ClearsOk ps l := ⟨h.apart, fun c hc => ⟨(h.each c hc).1, (h.each c hc).2.nd, fun x hx => ⟨(h.each c hc).2.sub x hx, (h.each c hc).2.ne x hx⟩⟩⟩
theorem hasS_members (d : PolicyD) (who other : ByteArray) : hasS (membersD d who) other = (decide (who = other) || hasS (readsD d.clears who) other) := by
  rw [Bool.eq_iff_iff, hasS_iff, membersD_mem, Bool.or_eq_true, decide_eq_true_iff, hasS_iff]
  exact ⟨fun h => h.imp Eq.symm id, fun h => h.imp Eq.symm id⟩
theorem hasS_take {l : List ByteArray} {k : Nat} {r x : ByteArray} (h : l[k]? = some r) : hasS (l.take (k + 1)) x = (hasS (l.take k) x || decide (r = x)) := by
  unfold hasS
  rw [List.take_add_one, h, List.any_append]
  simp
theorem fork_varV (b : Bool) (h : Heap) (K : Value → Heap → Prop) : forkE b h K = K (.bool b) h := by
  unfold forkE
  cases b
  · simp
  · simp
theorem ok_viewMembers (d : PolicyD) (who other : ByteArray) (v : Value) (h : Heap) (hx : PolV h v d) (K : Value → Heap → Prop) (hk : ∀ h', Ext h h' → K (.bool true) h') : Ok Try.prog tab ov 6 [v, .string who, .string other] h K := by
  obtain ⟨p0, p1, p2, p5, p6, q, b, rfl, hd⟩ := hx
  have hone := hd.one q b
  have hv2 := vSelf p2
  have hl2 := fun (hh : Heap) => hd.s2.lenA ds62 hh
  rw [lay_nil h]
  have z := Ext.refl h
  refine Ok.into rfl tab_fn6 (bodyF N6) rfl (m := 123) rfl ?_
  repeat' (first | simp -implicitDefEqProofs only [syms, symx, seval, c6, cells_pol, ↓cut_pol, agg_pol, valE_pol] | ((with_reducible first | apply forkD | apply forkB | apply forkN | apply forkNP | apply forkNot) <;> intro _) | ((with_reducible_and_instances apply unop_not); (· rfl)) | ((with_reducible refine ⟨z.grw.lay _ _, ?_⟩); (intro _ h' zz x _); (try simp only [lay_lay, List.append_nil] at x); (replace z := zz); (clear zz); rw [lay_nil h']))
  refine Ok.over (g := trueA) rfl rfl ?_
  repeat' (first | simp -implicitDefEqProofs only [syms, symx, seval, c6, cells_pol, ↓cut_pol, agg_pol, valE_pol, Bool.not_true] | ((with_reducible first | apply forkD | apply forkB | apply forkN | apply forkNP | apply forkNot) <;> intro _) | ((with_reducible_and_instances apply unop_not); (· rfl)) | ((with_reducible refine ⟨z.grw.lay _ _, ?_⟩); (intro _ h' zz x _); (try simp only [lay_lay, List.append_nil] at x); (replace z := zz); (clear zz); rw [lay_nil h']))
  refine ok_lightPolicy d _ _ _ _ _ _ _ _ (hd.lay _ _) _ (fun e0 e1 e2 h' x => ?_) (fun h' x => ?_)
  rotate_left
  · have q0 := Holds.top (i := 0) x rfl
    ((first | ((with_reducible refine KOpsX_call ?_ ?_ ?_); (· exact (by (try simp only [lsz]); have := z.size; omega)); (· first | exact x | simpa only [lla] using x)) | skip); replace z := z.overW x (by (try simp only [lsz]); omega); (try replace q0 := q0.over x); rw [lay_nil h'])
    repeat' (first | simp -implicitDefEqProofs only [syms, symx, seval, c6, Bool.not_false] | ((with_reducible first | apply forkD | apply forkB | apply forkN | apply forkNP | apply forkNot) <;> intro _) | ((with_reducible_and_instances apply unop_not); (· rfl)) | ((with_reducible refine ⟨z.grw.lay _ _, ?_⟩); (intro _ h' zz x _); (try simp only [lay_lay, List.append_nil] at x); (try replace q0 := q0.over x); (replace z := zz); (clear zz); rw [lay_nil h']))
    exact hk _ (z.upW _ _ (by omega))
  have q0 := Holds.top (i := 0) x rfl
  ((first | ((with_reducible refine KOpsX_call ?_ ?_ ?_); (· exact (by (try simp only [lsz]); have := z.size; omega)); (· first | exact x | simpa only [lla] using x)) | skip); replace z := z.overW x (by (try simp only [lsz]); omega); (try replace q0 := q0.over x); rw [lay_nil h'])
  obtain ⟨A0, hA0⟩ : ∃ A0, A0 = h.size + 0 := ⟨_, rfl⟩
  rw [← hA0] at q0
  rw [← hA0]
  repeat' (first | simp -implicitDefEqProofs only [syms, symx, seval, c6, q0.lay, ↓cut_pol, agg_pol, valE_pol, Bool.not_true] | ((with_reducible first | apply forkD | apply forkB | apply forkN | apply forkNP | apply forkNot) <;> intro _) | ((with_reducible_and_instances apply unop_not); (· rfl)) | ((with_reducible refine ⟨z.grw.lay _ _, ?_⟩); (intro _ h' zz x _); (try simp only [lay_lay, List.append_nil] at x); (try replace q0 := q0.over x); (replace z := zz); (clear zz); rw [lay_nil h']))
  iterate 2 (· exact hk _ (z.upW _ _ (by omega)))
  refine ok_check12 d _ _ _ _ _ _ _ _ hone ((hd.mono z.inc).lay _ _) e1 _ (fun hck0 h' x => ?_) (fun c h' hc x => ?_)
  rotate_left
  · ((first | ((with_reducible refine KOpsX_call ?_ ?_ ?_); (· exact (by (try simp only [lsz]); have := z.size; omega)); (· first | exact x | simpa only [lla] using x)) | skip); replace z := z.overW x (by (try simp only [lsz]); omega); (try replace q0 := q0.over x); rw [lay_nil h'])
    repeat' (first | simp -implicitDefEqProofs only [syms, symx, seval, c6] | ((with_reducible first | apply forkD | apply forkB | apply forkN | apply forkNP | apply forkNot) <;> intro _) | ((with_reducible_and_instances apply unop_not); (· rfl)) | ((with_reducible refine ⟨z.grw.lay _ _, ?_⟩); (intro _ h' zz x _); (try simp only [lay_lay, List.append_nil] at x); (try replace q0 := q0.over x); (replace z := zz); (clear zz); rw [lay_nil h']))
    all_goals first
      | exact hk _ (z.upW _ _ (by omega))
      | (exfalso; omega)
  ((first | ((with_reducible refine KOpsX_call ?_ ?_ ?_); (· exact (by (try simp only [lsz]); have := z.size; omega)); (· first | exact x | simpa only [lla] using x)) | skip); replace z := z.overW x (by (try simp only [lsz]); omega); (try replace q0 := q0.over x); rw [lay_nil h'])
  have hck := clrs_clears hck0
  repeat' (first | simp -implicitDefEqProofs only [syms, symx, seval, c6, q0.lay, ↓cut_pol, agg_pol, valE_pol] | ((with_reducible first | apply forkD | apply forkB | apply forkN | apply forkNP | apply forkNot) <;> intro _) | ((with_reducible_and_instances apply unop_not); (· rfl)) | ((with_reducible refine ⟨z.grw.lay _ _, ?_⟩); (intro _ h' zz x _); (try simp only [lay_lay, List.append_nil] at x); (try replace q0 := q0.over x); (replace z := zz); (clear zz); rw [lay_nil h']))
  refine ok_members d who _ _ _ _ _ _ _ _ hone ((hd.mono z.inc).lay _ _) (by omega) (by omega) hck e2 _ (fun w h' x sw => ?_)
  ((first | ((with_reducible refine KOpsX_call ?_ ?_ ?_); (· exact (by (try simp only [lsz]); have := z.size; omega)); (· first | exact x | simpa only [lla] using x)) | skip); replace z := z.overW x (by (try simp only [lsz]); omega); (try replace q0 := q0.over x); rw [lay_nil h'])
  have hvw := vSelf w
  have hlw := fun (hh : Heap) => sw.lenA ds60 hh
  have hvl := viewD_len (who := who) e2
  repeat' (first | simp -implicitDefEqProofs only [syms, symx, seval, c6, hvw, q0.lay, ↓cut_pol, agg_pol, valE_pol] | ((with_reducible first | apply forkD | apply forkB | apply forkN | apply forkNP | apply forkNot) <;> intro _) | ((with_reducible_and_instances apply unop_not); (· rfl)) | ((with_reducible refine ⟨z.grw.lay _ _, ?_⟩); (intro _ h' zz x _); (try simp only [lay_lay, List.append_nil] at x); (try replace q0 := q0.over x); (try replace sw := sw.over x); (replace z := zz); (clear zz); rw [lay_nil h']))
  refine ok_prin d.principals who _ _ _ _ _ _ _ _ ((hd.s0.mono z.inc).lay _ _) _ (fun h' x => ?_)
  ((first | ((with_reducible refine KOpsX_call ?_ ?_ ?_); (· exact (by (try simp only [lsz]); have := z.size; omega)); (· first | exact x | simpa only [lla] using x)) | skip); replace z := z.overW x (by (try simp only [lsz]); omega); (try replace q0 := q0.over x); (try replace sw := sw.over x); rw [lay_nil h'])
  cases hh : hasS d.principals who
  · have hv0 : viewD d who = [] := by unfold viewD; rw [hh]; rfl
    have hlz : (viewD d who).length = 0 := by rw [hv0]; rfl
    repeat' (first | simp -implicitDefEqProofs only [syms, symx, seval, c6, Bool.not_false, hvw, hlw, hlz, q0.lay, ↓cut_pol, agg_pol, valE_pol] | ((with_reducible first | apply forkD | apply forkB | apply forkN | apply forkNP | apply forkNot) <;> intro _) | ((with_reducible_and_instances apply unop_not); (· rfl)) | ((with_reducible refine ⟨z.grw.lay _ _, ?_⟩); (intro _ h' zz x _); (try simp only [lay_lay, List.append_nil] at x); (try replace q0 := q0.over x); (try replace sw := sw.over x); (replace z := zz); (clear zz); rw [lay_nil h']))
    refine ok_sees d who other _ _ _ _ _ _ _ _ hone ((hd.mono z.inc).lay _ _) (by omega) (by omega) hck e2 _ (fun h' x => ?_)
    ((first | ((with_reducible refine KOpsX_call ?_ ?_ ?_); (· exact (by (try simp only [lsz]); have := z.size; omega)); (· first | exact x | simpa only [lla] using x)) | skip); replace z := z.overW x (by (try simp only [lsz]); omega); (try replace q0 := q0.over x); (try replace sw := sw.over x); rw [lay_nil h'])
    have hs0 : hasS (viewD d who) other = false := by rw [hv0]; rfl
    repeat' (first | simp -implicitDefEqProofs only [syms, symx, seval, c6, hs0, Bool.not_false] | ((with_reducible first | apply forkD | apply forkB | apply forkN | apply forkNP | apply forkNot) <;> intro _) | ((with_reducible_and_instances apply unop_not); (· rfl)) | ((with_reducible refine ⟨z.grw.lay _ _, ?_⟩); (intro _ h' zz x _); (try simp only [lay_lay, List.append_nil] at x); (try replace q0 := q0.over x); (try replace sw := sw.over x); (replace z := zz); (clear zz); rw [lay_nil h']))
    exact hk _ (z.upW _ _ (by omega))
  have hvm : viewD d who = membersD d who := by unfold viewD; rw [hh]; rfl
  rw [hvm] at sw hlw hvl
  simp -implicitDefEqProofs only [syms, symx, seval, c6, Bool.not_true]
  with_reducible_and_instances apply unop_not
  · rfl
  simp -implicitDefEqProofs only [syms, symx, seval, c6, Bool.not_true]
  rw [fork_varV]
  obtain ⟨wo, hwo⟩ : ∃ wo, wo = decide (who = other) := ⟨_, rfl⟩
  rw [← hwo]
  repeat' (first | simp -implicitDefEqProofs only [syms, symx, seval, c6] | ((with_reducible first | apply forkD | apply forkB | apply forkN | apply forkNP | apply forkNot) <;> intro _) | ((with_reducible_and_instances apply unop_not); (· rfl)) | ((with_reducible refine ⟨z.grw.lay _ _, ?_⟩); (intro _ h' zz x _); (try simp only [lay_lay, List.append_nil] at x); (try replace q0 := q0.over x); (try replace sw := sw.over x); (replace z := zz); (clear zz); rw [lay_nil h']))
  obtain ⟨I1, hI1⟩ : ∃ I : Nat → Env → Heap → Prop, I = (fun n e h' => ∃ (i : Nat) (n8 : Nat) (bb : Bool) (h1 : Heap), h' = h1.lay [] h1.low ∧ Ext h h1 ∧ (n = d.clears.length - i ∧ i ≤ d.clears.length ∧ n8 = (readsD (d.clears.take i) who).length ∧ bb = (wo || hasS (readsD (d.clears.take i) who) other) ∧ Holds h1 A0 (.row (polCells p0 p1 p2 p5 p6 q b) 66 false) ∧ Sl Rep.str h1 w (membersD d who)) ∧ ∃ J : Nat → Value, e = (J 0 :: .string who :: .string other :: .pointer (some ⟨A0, 0, none⟩) :: jr J 4 3 (w :: .int .i64 n8 :: .bool bb :: .int .i64 i :: jr J 11 115 ([])))) := ⟨_, rfl⟩
  refine W_loopN I1 _ (by rw [hI1]; exact ⟨0, 0, wo, _, rfl, z, ⟨rfl, by omega, rfl, by simp [readsD, hasS], q0, sw⟩, junk (by kernel_rfl)⟩) ?_
  intro n e h' hin
  rw [hI1] at hin
  obtain ⟨i, n8, bb, h1', rfl, z, hinv, J, rfl⟩ := hin
  clear q0 sw
  obtain ⟨rfl, hi, h8, h9, q0, sw⟩ := hinv
  have hw : IntKind.i64.wrap ((i : Int) + 1) = ((i + 1 : Nat) : Int) := by rw [wrap_i64 (by omega) (by omega)]; omega
  simp -implicitDefEqProofs only [syms, symx, seval, c6, q0.lay, pol2, hv2, hl2]
  refine forkD (fun hlt => ?_) (fun hlt => ?_)
  · obtain ⟨r, hr, hr'⟩ := amElem (l := d.clears) (i := i) (by omega)
    repeat' (first | simp -implicitDefEqProofs only [syms, symx, seval, c6, q0.lay, pol2, hv2] | ((with_reducible first | apply forkD | apply forkB | apply forkN | apply forkNP | apply forkNot) <;> intro _) | with_reducible_and_instances refine ixC_at (hd.s2.mono z.inc) ds62 sz73 (by omega) hr (fun p bv hb hp => ?_) | with_reducible_and_instances refine fdP0 hp fa73_0 (fun qq hq => ?_) | with_reducible_and_instances refine ld_one hq ag9 ?_ | ((with_reducible_and_instances apply unop_not); (· rfl)) | ((with_reducible refine ⟨z.grw.lay _ _, ?_⟩); (intro _ h' zz x _); (try simp only [lay_lay, List.append_nil] at x); (try replace q0 := q0.over x); (try replace sw := sw.over x); (replace z := zz); (clear zz); rw [lay_nil h']))
    · have hne : ¬ r.who = who := by assumption
      rw [hw]
      (rw [hI1]; with_reducible refine loopN_normal (m := _) ?_ ⟨i + 1, n8, bb, _, rfl, z, ⟨rfl, by omega, by rw [readsD_skip hr' hne]; exact h8, by rw [readsD_skip hr' hne]; exact h9, q0, sw⟩, junk (by kernel_rfl)⟩; omega)
    have heq : r.who = who := by first | assumption | exact Classical.not_not.1 (by assumption)
    obtain ⟨k1, k2⟩ := readsD_snoc hck hr' heq
    have hrl := e2 r (List.mem_of_getElem? hr')
    have hb9 : bb = wo := by rw [h9, k1]; simp [hasS]
    repeat' (first | simp -implicitDefEqProofs only [syms, symx, seval, c6, q0.lay, pol2, hv2] | ((with_reducible first | apply forkD | apply forkB | apply forkN | apply forkNP | apply forkNot) <;> intro _) | with_reducible_and_instances refine ixC_at (hd.s2.mono z.inc) ds62 sz73 (by omega) hr (fun p bv hb hp => ?_) | with_reducible_and_instances refine fdP1 hp fa73_1 (fun qq hq => ?_) | with_reducible_and_instances refine ld_one hq ag60 ?_ | with_reducible_and_instances refine ln_rule hb ds60 ?_ | ((with_reducible_and_instances apply unop_not); (· rfl)) | ((with_reducible refine ⟨z.grw.lay _ _, ?_⟩); (intro _ h' zz x _); (try simp only [lay_lay, List.append_nil] at x); (try replace q0 := q0.over x); (try replace sw := sw.over x); (replace z := zz); (clear zz); rw [lay_nil h']))
    obtain ⟨I2, hI2⟩ : ∃ I : Nat → Env → Heap → Prop, I = (fun n e h' => ∃ (k : Nat) (b2 : Bool) (h1 : Heap), h' = h1.lay [] h1.low ∧ Ext h h1 ∧ (n = r.reads.length - k ∧ k ≤ r.reads.length ∧ b2 = (wo || hasS (r.reads.take k) other) ∧ Holds h1 A0 (.row (polCells p0 p1 p2 p5 p6 q b) 66 false) ∧ Sl Rep.str h1 w (membersD d who)) ∧ ∃ J : Nat → Value, e = (J 0 :: .string who :: .string other :: .pointer (some ⟨A0, 0, none⟩) :: jr J 4 3 (w :: .int .i64 r.reads.length :: .bool b2 :: .int .i64 i :: .int .i64 k :: jr J 12 114 ([])))) := ⟨_, rfl⟩
    refine W_loopN I2 _ (by rw [hI2]; exact ⟨0, bb, _, rfl, z, ⟨rfl, by omega, by rw [hb9]; simp [hasS], q0, sw⟩, junk (by kernel_rfl)⟩) ?_
    intro n e h' hin
    rw [hI2] at hin
    obtain ⟨k, b2, h1', rfl, z, hinv, J, rfl⟩ := hin
    clear q0 sw
    obtain ⟨rfl, hk1, h2, q0, sw⟩ := hinv
    have hwk : IntKind.i64.wrap ((k : Int) + 1) = ((k + 1 : Nat) : Int) := by rw [wrap_i64 (by omega) (by omega)]; omega
    simp -implicitDefEqProofs only [syms, symx, seval, c6]
    refine forkD (fun hlt2 => ?_) (fun hlt2 => ?_)
    · obtain ⟨s, hs, hs'⟩ := amElem (l := r.reads) (i := k) (by omega)
      have hht := hasS_take (x := other) hs'
      cases b2
      rotate_left
      · repeat' (first | simp -implicitDefEqProofs only [syms, symx, seval, c6] | ((with_reducible first | apply forkD | apply forkB | apply forkN | apply forkNP | apply forkNot) <;> intro _) | with_reducible_and_instances refine ixC_at (hd.s2.mono z.inc) ds62 sz73 (by omega) hr (fun p bv hb hp => ?_) | with_reducible_and_instances refine fdP1 hp fa73_1 (fun qq hq => ?_) | with_reducible_and_instances refine ld_one hq ag60 ?_ | with_reducible_and_instances refine ln_rule hb ds60 ?_ | ((with_reducible_and_instances apply unop_not); (· rfl)) | ((with_reducible refine ⟨z.grw.lay _ _, ?_⟩); (intro _ h' zz x _); (try simp only [lay_lay, List.append_nil] at x); (try replace q0 := q0.over x); (try replace sw := sw.over x); (replace z := zz); (clear zz); rw [lay_nil h']))
        rw [hwk]
        (rw [hI2]; with_reducible refine loopN_normal (m := _) ?_ ⟨k + 1, true, _, rfl, z, ⟨rfl, by omega, by rw [hht, ← Bool.or_assoc, ← h2, Bool.true_or], q0, sw⟩, junk (by kernel_rfl)⟩; omega)
      repeat' (first | simp -implicitDefEqProofs only [syms, symx, seval, c6, q0.lay, pol2, hv2] | ((with_reducible first | apply forkD | apply forkB | apply forkN | apply forkNP | apply forkNot) <;> intro _) | with_reducible_and_instances refine ixC_at (hd.s2.mono z.inc) ds62 sz73 (by omega) hr (fun p bv hb hp => ?_) | with_reducible_and_instances refine fdP1 hp fa73_1 (fun qq hq => ?_) | with_reducible_and_instances refine ld_one hq ag60 ?_ | with_reducible_and_instances refine ixs_at hb ds60 sz9 (by omega) hs (fun p hp => ?_) | with_reducible_and_instances refine ld_one hp ag9 ?_ | ((with_reducible_and_instances apply unop_not); (· rfl)) | ((with_reducible refine ⟨z.grw.lay _ _, ?_⟩); (intro _ h' zz x _); (try simp only [lay_lay, List.append_nil] at x); (try replace q0 := q0.over x); (try replace sw := sw.over x); (replace z := zz); (clear zz); rw [lay_nil h']))
      all_goals rw [hwk]
      · have hso : s = other := by assumption
        (rw [hI2]; with_reducible refine loopN_normal (m := _) ?_ ⟨k + 1, true, _, rfl, z, ⟨rfl, by omega, by rw [hht, ← Bool.or_assoc, ← h2, decide_eq_true hso, Bool.false_or], q0, sw⟩, junk (by kernel_rfl)⟩; omega)
      · have hso : ¬ s = other := by assumption
        (rw [hI2]; with_reducible refine loopN_normal (m := _) ?_ ⟨k + 1, false, _, rfl, z, ⟨rfl, by omega, by rw [hht, ← Bool.or_assoc, ← h2, decide_eq_false hso, Bool.false_or], q0, sw⟩, junk (by kernel_rfl)⟩; omega)
    have hkl : k = r.reads.length := by omega
    repeat' (first | simp -implicitDefEqProofs only [syms, symx, seval, c6] | ((with_reducible first | apply forkD | apply forkB | apply forkN | apply forkNP | apply forkNot) <;> intro _) | with_reducible_and_instances refine ixC_at (hd.s2.mono z.inc) ds62 sz73 (by omega) hr (fun p bv hb hp => ?_) | with_reducible_and_instances refine fdP1 hp fa73_1 (fun qq hq => ?_) | with_reducible_and_instances refine ld_one hq ag60 ?_ | with_reducible_and_instances refine ixs_at hb ds60 sz9 (by omega) hs (fun p hp => ?_) | with_reducible_and_instances refine ld_one hp ag9 ?_ | ((with_reducible_and_instances apply unop_not); (· rfl)) | ((with_reducible refine ⟨z.grw.lay _ _, ?_⟩); (intro _ h' zz x _); (try simp only [lay_lay, List.append_nil] at x); (try replace q0 := q0.over x); (try replace sw := sw.over x); (replace z := zz); (clear zz); rw [lay_nil h']))
    rw [hw]
    (rw [hI1]; with_reducible refine loopN_normal (m := _) ?_ ⟨i + 1, r.reads.length, b2, _, rfl, z, ⟨rfl, by omega, by rw [k2], by rw [k2, h2, hkl, List.take_length], q0, sw⟩, junk (by kernel_rfl)⟩; omega)
  rw [List.take_of_length_le (by omega)] at h8 h9
  clear hi hlt hw
  repeat' (first | simp -implicitDefEqProofs only [syms, symx, seval, c6] | ((with_reducible first | apply forkD | apply forkB | apply forkN | apply forkNP | apply forkNot) <;> intro _) | with_reducible_and_instances refine ixC_at (hd.s2.mono z.inc) ds62 sz73 (by omega) hr (fun p bv hb hp => ?_) | with_reducible_and_instances refine fdP1 hp fa73_1 (fun qq hq => ?_) | with_reducible_and_instances refine ld_one hq ag60 ?_ | with_reducible_and_instances refine ixs_at hb ds60 sz9 (by omega) hs (fun p hp => ?_) | with_reducible_and_instances refine ld_one hp ag9 ?_ | ((with_reducible_and_instances apply unop_not); (· rfl)) | ((with_reducible refine ⟨z.grw.lay _ _, ?_⟩); (intro _ h' zz x _); (try simp only [lay_lay, List.append_nil] at x); (try replace q0 := q0.over x); (try replace sw := sw.over x); (replace z := zz); (clear zz); rw [lay_nil h']))
  obtain ⟨I3, hI3⟩ : ∃ I : Nat → Env → Heap → Prop, I = (fun n e h' => ∃ (m : Nat) (h1 : Heap), h' = h1.lay [] h1.low ∧ Ext h h1 ∧ (n = (membersD d who).length - m ∧ m ≤ (membersD d who).length ∧ Holds h1 A0 (.row (polCells p0 p1 p2 p5 p6 q b) 66 false) ∧ Sl Rep.str h1 w (membersD d who)) ∧ ∃ J : Nat → Value, e = (J 0 :: .string who :: .string other :: .pointer (some ⟨A0, 0, none⟩) :: jr J 4 3 (w :: .int .i64 n8 :: .bool bb :: jr J 10 2 (.int .i64 m :: jr J 13 113 ([]))))) := ⟨_, rfl⟩
  refine W_loopN I3 _ (by rw [hI3]; exact ⟨0, _, rfl, z, ⟨rfl, by omega, q0, sw⟩, junk (by kernel_rfl)⟩) ?_
  intro n e h' hin
  rw [hI3] at hin
  obtain ⟨m, h1', rfl, z, hinv, J, rfl⟩ := hin
  clear q0 sw
  obtain ⟨rfl, hm, q0, sw⟩ := hinv
  have hwm : IntKind.i64.wrap ((m : Int) + 1) = ((m + 1 : Nat) : Int) := by rw [wrap_i64 (by omega) (by omega)]; omega
  simp -implicitDefEqProofs only [syms, symx, seval, c6, hvw, hlw]
  refine forkD (fun hlt => ?_) (fun hlt => ?_)
  · obtain ⟨s, hs, hs'⟩ := amElem (l := membersD d who) (i := m) (by omega)
    have hsp : hasS d.principals s = true := by
      rw [hasS_iff]
      rcases membersD_mem.1 (List.mem_of_getElem? hs') with rfl | hs3
      · exact hasS_iff.1 hh
      · exact ((readsD_ok hck).2 s hs3).1
    repeat' (first | simp -implicitDefEqProofs only [syms, symx, seval, c6, q0.lay, hvw, ↓cut_pol, agg_pol, valE_pol] | with_reducible refine drawN (by simp only [c6]) (z.upW _ _ (by omega)) ?_ | ((with_reducible first | apply forkD | apply forkB | apply forkN | apply forkNP | apply forkNot) <;> intro _) | with_reducible_and_instances refine ixs_at sw ds60 sz9 (by omega) hs (fun p hp => ?_) | with_reducible_and_instances refine ld_one hp ag9 ?_ | ((with_reducible_and_instances apply unop_not); (· rfl)) | ((with_reducible refine ⟨z.grw.lay _ _, ?_⟩); (intro _ h' zz x _); (try simp only [lay_lay, List.append_nil] at x); (try replace q0 := q0.over x); (try replace sw := sw.over x); (replace z := zz); (clear zz); rw [lay_nil h']))
    refine ok_prin d.principals s _ _ _ _ _ _ _ _ ((hd.s0.mono z.inc).lay _ _) _ (fun h' x => ?_)
    ((first | ((with_reducible refine KOpsX_call ?_ ?_ ?_); (· exact (by (try simp only [lsz]); have := z.size; omega)); (· first | exact x | simpa only [lla] using x)) | skip); replace z := z.overW x (by (try simp only [lsz]); omega); (try replace q0 := q0.over x); (try replace sw := sw.over x); rw [lay_nil h'])
    rw [hsp]
    repeat' (first | simp -implicitDefEqProofs only [syms, symx, seval, c6, Bool.not_true] | with_reducible refine drawN (by simp only [c6]) (z.upW _ _ (by omega)) ?_ | ((with_reducible first | apply forkD | apply forkB | apply forkN | apply forkNP | apply forkNot) <;> intro _) | with_reducible_and_instances refine ixs_at sw ds60 sz9 (by omega) hs (fun p hp => ?_) | with_reducible_and_instances refine ld_one hp ag9 ?_ | ((with_reducible_and_instances apply unop_not); (· rfl)) | ((with_reducible refine ⟨z.grw.lay _ _, ?_⟩); (intro _ h' zz x _); (try simp only [lay_lay, List.append_nil] at x); (try replace q0 := q0.over x); (try replace sw := sw.over x); (replace z := zz); (clear zz); rw [lay_nil h']))
    rw [hwm]
    (rw [hI3]; with_reducible refine loopN_normal (m := _) ?_ ⟨m + 1, _, rfl, z, ⟨rfl, by omega, q0, sw⟩, junk (by kernel_rfl)⟩; omega)
  have hlm : (membersD d who).length = 1 + n8 := by rw [membersD_length, h8]
  have hw8 : IntKind.i64.wrap (1 + (n8 : Int)) = ((1 + n8 : Nat) : Int) := by rw [wrap_i64 (by omega) (by omega)]; omega
  have hsb : hasS (viewD d who) other = bb := by rw [hvm, hasS_members, h9, hwo]
  have hsw : hasS (viewD d who) who = true := by rw [hvm, hasS_members, decide_eq_true rfl, Bool.true_or]
  repeat' (first | simp -implicitDefEqProofs only [syms, symx, seval, c6, hvw, hlw, hlm, hw8, q0.lay, ↓cut_pol, agg_pol, valE_pol] | ((with_reducible first | apply forkD | apply forkB | apply forkN | apply forkNP | apply forkNot) <;> intro _) | with_reducible_and_instances refine ixs_at sw ds60 sz9 (by omega) hs (fun p hp => ?_) | with_reducible_and_instances refine ld_one hp ag9 ?_ | ((with_reducible_and_instances apply unop_not); (· rfl)) | ((with_reducible refine ⟨z.grw.lay _ _, ?_⟩); (intro _ h' zz x _); (try simp only [lay_lay, List.append_nil] at x); (try replace q0 := q0.over x); (try replace sw := sw.over x); (replace z := zz); (clear zz); rw [lay_nil h']))
  refine ok_sees d who other _ _ _ _ _ _ _ _ hone ((hd.mono z.inc).lay _ _) (by omega) (by omega) hck e2 _ (fun h' x => ?_)
  ((first | ((with_reducible refine KOpsX_call ?_ ?_ ?_); (· exact (by (try simp only [lsz]); have := z.size; omega)); (· first | exact x | simpa only [lla] using x)) | skip); replace z := z.overW x (by (try simp only [lsz]); omega); (try replace q0 := q0.over x); (try replace sw := sw.over x); rw [lay_nil h'])
  rw [hsb]
  have hbb : ∀ b : Bool, binA Try.prog tab .eql 4 (.bool b) (.bool b) = some (.bool true) := by
    intro b
    cases b
    · exact bb_ff
    · exact bb_tt
  repeat' (first | simp -implicitDefEqProofs only [syms, symx, seval, c6, hbb, q0.lay, ↓cut_pol, agg_pol, valE_pol] | ((with_reducible first | apply forkD | apply forkB | apply forkN | apply forkNP | apply forkNot) <;> intro _) | with_reducible_and_instances refine ixs_at sw ds60 sz9 (by omega) hs (fun p hp => ?_) | with_reducible_and_instances refine ld_one hp ag9 ?_ | ((with_reducible_and_instances apply unop_not); (· rfl)) | ((with_reducible refine ⟨z.grw.lay _ _, ?_⟩); (intro _ h' zz x _); (try simp only [lay_lay, List.append_nil] at x); (try replace q0 := q0.over x); (try replace sw := sw.over x); (replace z := zz); (clear zz); rw [lay_nil h']))
  refine ok_sees d who who _ _ _ _ _ _ _ _ hone ((hd.mono z.inc).lay _ _) (by omega) (by omega) hck e2 _ (fun h' x => ?_)
  ((first | ((with_reducible refine KOpsX_call ?_ ?_ ?_); (· exact (by (try simp only [lsz]); have := z.size; omega)); (· first | exact x | simpa only [lla] using x)) | skip); replace z := z.overW x (by (try simp only [lsz]); omega); (try replace q0 := q0.over x); (try replace sw := sw.over x); rw [lay_nil h'])
  rw [hsw]
  repeat' (first | simp -implicitDefEqProofs only [syms, symx, seval, c6] | ((with_reducible first | apply forkD | apply forkB | apply forkN | apply forkNP | apply forkNot) <;> intro _) | with_reducible_and_instances refine ixs_at sw ds60 sz9 (by omega) hs (fun p hp => ?_) | with_reducible_and_instances refine ld_one hp ag9 ?_ | ((with_reducible_and_instances apply unop_not); (· rfl)) | ((with_reducible refine ⟨z.grw.lay _ _, ?_⟩); (intro _ h' zz x _); (try simp only [lay_lay, List.append_nil] at x); (try replace q0 := q0.over x); (try replace sw := sw.over x); (replace z := zz); (clear zz); rw [lay_nil h']))
  exact hk _ (z.upW _ _ (by omega))
end Go.Proofs.Ytompindebndddaa
namespace Go.Proofs.Ytompindebndddaa
open Go.ChangeShapes Go.WideShapes Go.ChangeAt Go.RowKit Go.Am
theorem viewMembers_own : ownKnob Try.prog.godebug = none := by kernel_rfl
theorem viewMembers_laidOut : laidOutB Try.prog = true := by kernel_rfl
set_option maxRecDepth 100000 in
theorem viewMembers_ok (h : Heap) (args : List Value) (_ : h.low = h.size) (hs : ArgsShp Try.prog h 8 Try.f6.params.toList args) : Ok Try.prog tab ov 6 args h fun v h' => v = .bool true ∧ Ext h h' := by
  have hp : Try.f6.params.toList = [66, 9, 9] := by kernel_rfl
  have hs2 : ArgsShp Try.prog h 8 [66, 9, 9] args := argsShp_eq hp hs
  clear hs
  obtain ⟨x0, r0, rfl, h0, hs2⟩ := argsShp_cons hs2
  obtain ⟨x1, r1, rfl, h1, hs2⟩ := argsShp_cons hs2
  obtain ⟨x2, r2, rfl, h2, hs2⟩ := argsShp_cons hs2
  obtain rfl := argsShp_nil hs2
  obtain ⟨d0, f0⟩ := arg_policy h0
  obtain ⟨d1, rfl⟩ := arg_string h1
  obtain ⟨d2, rfl⟩ := arg_string h2
  exact ok_viewMembers d0 d1 d2 x0 h f0 _ (fun h' x => ⟨rfl, x⟩)
set_option maxRecDepth 100000 in
theorem viewMembers_lifted (os : Os) (started : os.Started) (H : Type) (enc : TypeId × Value → H) :
    ReturnsInHanded {} Try.checked os 6 .any (Rows.viewMembersSpec.pre6 enc Try.prog Try.f6 Rows.viewMembersRow.domain false) (Rows.viewMembersSpec.post enc Try.prog Try.f6 Rows.viewMembersRow.apart Rows.viewMembersRow.fresh Rows.viewMembersRow.handsOn Rows.viewMembersRow.again) := by
  refine returnsInHanded_of_change_shaped (C := Try.checked) viewMembers_own started (by kernel_rfl) Try.func6
    (ChangeSpec.witness6 (enc := enc) (C := Try.checked) false ⟨#[], #[.agg ⟨[.slice none 0 0, .slice none 0 0, .slice none 0 0, .int .i64 0, .int .i64 0, .slice none 0 0, .slice none 0 0]⟩, .string ⟨#[]⟩, .string ⟨#[]⟩], []⟩ 12 (by kernel_rfl) (by kernel_rfl) (by kernel_rfl) (by kernel_rfl)) ?_
  intro W base args ds gs before hval hW _ _ hsh _
  exact law_contract (n := 8) (boolT := 4) mixed tab_fits rfl ov_ok rfl (of_decide_eq_true (by kernel_rfl)) viewMembers_laidOut rfl (by kernel_rfl) (by kernel_rfl) Try.underlying4 (by kernel_rfl) (by kernel_rfl)
    (fun ds hd => by
      have hp : Try.f6.params.size = 3 := by kernel_rfl
      rw [hp] at hd
      match ds, hd with
      | [_, _, _], _ => rfl)
    viewMembers_ok hval hW hsh
theorem viewMembers_holds : Rows.ViewMembersSaid :=
  OpenClaim.holds_of_wide 6 Try.f6 rfl rfl rfl rfl rfl rfl rfl ⟨rfl, rfl, rfl, rfl, rfl⟩ rfl rfl rfl rfl rfl (by kernel_rfl) Try.func6 (by kernel_rfl)
    (of_decide_eq_true (by kernel_rfl)) (by unfold Func.isWrapper; first | (rw [if_pos (by decide +kernel)]; kernel_rfl) | (rw [if_neg (by decide +kernel)]; exact ⟨rfl, rfl⟩))
    (fun os started H enc _ => viewMembers_lifted os started H enc)
#print axioms viewMembers_holds
end Go.Proofs.Ytompindebndddaa
