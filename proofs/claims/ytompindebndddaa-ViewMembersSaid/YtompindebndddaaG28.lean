/- The code of some functions, node by node, for simp. Written by a program (mkcode.py). No condition. -/
import Derived.Test.YtompindebndddaaG26
import Derived.Test.YtompindebndddaaG22
import Derived.KernelRfl
import Derived.Test.YtompindebndddaaG27
import Derived.Test.YtompindebndddaaGPol
namespace Go.Proofs.Ytompindebndddaa
open Go.Am
set_option linter.unusedVariables false
set_option linter.unusedSimpArgs false
set_option maxRecDepth 100000
set_option maxHeartbeats 0
noncomputable def N99 := nodeF Try.f99
noncomputable def x99 := PLift.up (by have c := factsOf N99 Try.f99; simp only [codeOf, Try.f99, Option.getD_some, factsF, opsF, opsX, ncount, wantG, dstL, quietS, List.append_eq, List.cons_append, List.nil_append, seval] at c; exact nd c <| nd @ix60 <| nd @ld9 <| nd @ln60 <| nd @ln9 <| @fi99)
theorem c99 : type_of% x99.down := x99.down
noncomputable def N37 := nodeF Try.f37
noncomputable def x37 := PLift.up (by have c := factsOf N37 Try.f37; simp only [codeOf, Try.f37, Option.getD_some, factsF, opsF, opsX, ncount, wantG, dstL, quietS, List.append_eq, List.cons_append, List.nil_append, seval] at c; exact nd c <| nd @fa123_0 <| nd @fa124_0 <| nd @fa124_1 <| nd @fa126_0 <| nd @fa126_1 <| nd @fa126_2 <| nd @fa66_0 <| nd @fa66_1 <| nd @fa66_2 <| nd @fa66_5 <| nd @fa66_6 <| nd @fa73_0 <| nd @fa73_1 <| nd @ix61 <| nd @ix62 <| nd @ix63 <| nd @ix64 <| nd @ld23 <| nd @ld39 <| nd @ld60 <| nd @ld61 <| nd @ld62 <| nd @ld63 <| nd @ld64 <| nd @ld9 <| nd @ln61 <| nd @ln62 <| nd @ln63 <| nd @ln64 <| nd @ln9 <| @fi37)
theorem c37 : type_of% x37.down := x37.down
noncomputable def N40 := nodeF Try.f40
noncomputable def x40 := PLift.up (by have c := factsOf N40 Try.f40; simp only [codeOf, Try.f40, Option.getD_some, factsF, opsF, opsX, ncount, wantG, dstL, quietS, List.append_eq, List.cons_append, List.nil_append, seval] at c; exact nd c <| nd @fa66_0 <| nd @ix60 <| nd @ld60 <| nd @ld9 <| nd @ln60 <| @fi40)
theorem c40 : type_of% x40.down := x40.down
noncomputable def N100 := nodeF Try.f100
noncomputable def x100 := PLift.up (by have c := factsOf N100 Try.f100; simp only [codeOf, Try.f100, Option.getD_some, factsF, opsF, opsX, ncount, wantG, dstL, quietS, List.append_eq, List.cons_append, List.nil_append, seval] at c; exact nd c <| nd @fa66_0 <| nd @ix60 <| nd @ld60 <| nd @ld9 <| nd @ln60 <| @fi100)
theorem c100 : type_of% x100.down := x100.down
noncomputable def N147 := nodeF Try.f147
noncomputable def x147 := PLift.up (by have c := factsOf N147 Try.f147; simp only [codeOf, Try.f147, Option.getD_some, factsF, opsF, opsX, ncount, wantG, dstL, quietS, List.append_eq, List.cons_append, List.nil_append, seval] at c; exact nd c <| nd @fa123_0 <| nd @fa123_1 <| nd @fa66_1 <| nd @ix61 <| nd @ld3 <| nd @ld61 <| nd @ld9 <| nd @ln61 <| @fi147)
theorem c147 : type_of% x147.down := x147.down
noncomputable def N101 := nodeF Try.f101
noncomputable def x101 := PLift.up (by have c := factsOf N101 Try.f101; simp only [codeOf, Try.f101, Option.getD_some, factsF, opsF, opsX, ncount, wantG, dstL, quietS, List.append_eq, List.cons_append, List.nil_append, seval] at c; exact nd c <| nd @al123 <| nd @fa123_0 <| nd @fa123_1 <| nd @fa66_1 <| nd @ix61 <| nd @ld123 <| nd @ld3 <| nd @ld61 <| nd @ld9 <| nd @ln61 <| @fi101)
theorem c101 : type_of% x101.down := x101.down
noncomputable def N148 := nodeF Try.f148
noncomputable def x148 := PLift.up (by have c := factsOf N148 Try.f148; simp only [codeOf, Try.f148, Option.getD_some, factsF, opsF, opsX, ncount, wantG, dstL, quietS, List.append_eq, List.cons_append, List.nil_append, seval] at c; exact nd c <| nd @fa73_0 <| nd @fa73_1 <| nd @ix60 <| nd @ld60 <| nd @ld66 <| nd @ld9 <| nd @ln60 <| @fi148)
theorem c148 : type_of% x148.down := x148.down
noncomputable def N102 := nodeF Try.f102
noncomputable def x102 := PLift.up (by have c := factsOf N102 Try.f102; simp only [codeOf, Try.f102, Option.getD_some, factsF, opsF, opsX, ncount, wantG, dstL, quietS, List.append_eq, List.cons_append, List.nil_append, seval] at c; exact nd c <| nd @fa66_2 <| nd @fa73_0 <| nd @ix62 <| nd @ld62 <| nd @ld66 <| nd @ld73 <| nd @ld9 <| nd @ln62 <| @fi102)
theorem c102 : type_of% x102.down := x102.down
noncomputable def N149 := nodeF Try.f149
noncomputable def x149 := PLift.up (by have c := factsOf N149 Try.f149; simp only [codeOf, Try.f149, Option.getD_some, factsF, opsF, opsX, ncount, wantG, dstL, quietS, List.append_eq, List.cons_append, List.nil_append, seval] at c; exact nd c <| nd @fa39_0 <| nd @fa39_1 <| nd @fa39_2 <| nd @ld3 <| nd @ld39 <| nd @ld66 <| nd @ld9 <| @fi149)
theorem c149 : type_of% x149.down := x149.down
noncomputable def N103 := nodeF Try.f103
noncomputable def x103 := PLift.up (by have c := factsOf N103 Try.f103; simp only [codeOf, Try.f103, Option.getD_some, factsF, opsF, opsX, ncount, wantG, dstL, quietS, List.append_eq, List.cons_append, List.nil_append, seval] at c; exact nd c <| nd @ix23 <| nd @ld39 <| nd @ld66 <| nd @ln23 <| @fi103)
theorem c103 : type_of% x103.down := x103.down
noncomputable def N104 := nodeF Try.f104
noncomputable def x104 := PLift.up (by have c := factsOf N104 Try.f104; simp only [codeOf, Try.f104, Option.getD_some, factsF, opsF, opsX, ncount, wantG, dstL, quietS, List.append_eq, List.cons_append, List.nil_append, seval] at c; exact nd c <| nd @fa39_2 <| nd @fa39_3 <| nd @ix23 <| nd @ix37 <| nd @ix60 <| nd @ld3 <| nd @ld36 <| nd @ld39 <| nd @ld9 <| nd @ln23 <| nd @ln60 <| @fi104)
theorem c104 : type_of% x104.down := x104.down
noncomputable def N150 := nodeF Try.f150
noncomputable def x150 := PLift.up (by have c := factsOf N150 Try.f150; simp only [codeOf, Try.f150, Option.getD_some, factsF, opsF, opsX, ncount, wantG, dstL, quietS, List.append_eq, List.cons_append, List.nil_append, seval] at c; exact nd c <| nd @ld39 <| @fi150)
theorem c150 : type_of% x150.down := x150.down
noncomputable def N180 := nodeF Try.f180
noncomputable def x180 := PLift.up (by have c := factsOf N180 Try.f180; simp only [codeOf, Try.f180, Option.getD_some, factsF, opsF, opsX, ncount, wantG, dstL, quietS, List.append_eq, List.cons_append, List.nil_append, seval] at c; exact nd c <| nd @bs60 <| nd @fa36_0 <| nd @fa36_1 <| nd @fa39_3 <| nd @ix37 <| nd @ld36 <| nd @ld39 <| nd @ld4 <| nd @ld9 <| @fi180)
theorem c180 : type_of% x180.down := x180.down
noncomputable def N38 := nodeF Try.f38
noncomputable def x38 := PLift.up (by have c := factsOf N38 Try.f38; simp only [codeOf, Try.f38, Option.getD_some, factsF, opsF, opsX, ncount, wantG, dstL, quietS, List.append_eq, List.cons_append, List.nil_append, seval] at c; exact nd c <| nd @al126 <| nd @fa124_0 <| nd @fa124_1 <| nd @fa126_0 <| nd @fa126_1 <| nd @fa126_2 <| nd @fa39_0 <| nd @fa66_3 <| nd @fa66_4 <| nd @fa66_5 <| nd @fa66_6 <| nd @ix63 <| nd @ix64 <| nd @ld126 <| nd @ld23 <| nd @ld3 <| nd @ld39 <| nd @ld63 <| nd @ld64 <| nd @ld66 <| nd @ld9 <| nd @ln63 <| nd @ln64 <| @fi38)
theorem c38 : type_of% x38.down := x38.down
end Go.Proofs.Ytompindebndddaa
namespace Go.Proofs.Ytompindebndddaa
open Go.Am
set_option linter.unusedSimpArgs false
set_option linter.unusedVariables false
set_option maxRecDepth 100000
set_option maxHeartbeats 0
theorem ok_lightTexts (l : List ByteArray) (v : Value) (n0 m : Int) (h : Heap) (hl : Sl Rep.str h v l) (K : Value → Heap → Prop) (h1k : (l.length : Int) ≤ n0 → ∀ h', Ext h h' → K (.bool true) h') (h2k : ∀ h', Ext h h' → K (.bool false) h') : Ok Try.prog tab ov 99 [v, .int .i64 n0, .int .i64 m] h K := by
  rw [lay_nil h]
  have z := Ext.refl h
  have hle := hl.le
  have hva := vSelf v
  have hlv := fun (hh : Heap) => hl.lenA ds60 hh
  refine Ok.into rfl tab_fn99 (bodyF N99) rfl (m := 26) rfl ?_
  repeat' (first | simp -implicitDefEqProofs only [syms, symx, seval, c99, hva, hlv] | ((with_reducible first | apply forkD | apply forkB | apply forkN | apply forkNP | apply forkNot) <;> intro _))
  · exact h2k _ (z.upW _ _ (by omega))
  obtain ⟨I1, hI1⟩ : ∃ I : Nat → Env → Heap → Prop, I = (fun n e h' => ∃ (i : Nat) (s : Int) (h1 : Heap), h' = h1.lay [] h1.low ∧ Ext h h1 ∧ (n = l.length - i ∧ i ≤ l.length) ∧ ∃ J : Nat → Value, e = (v :: .int .i64 n0 :: .int .i64 m :: jr J 3 4 (.int .i64 s :: .int .i64 i :: jr J 9 20 ([])))) := ⟨_, rfl⟩
  refine W_loopN I1 _ (by rw [hI1]; exact ⟨0, 0, _, rfl, z, ⟨rfl, by omega⟩, junk (by kernel_rfl)⟩) ?_
  intro n e h' hin
  rw [hI1] at hin
  obtain ⟨i, s, h1', rfl, z, hinv, J, rfl⟩ := hin
  obtain ⟨rfl, hi⟩ := hinv
  have hw : i < l.length → IntKind.i64.wrap ((i : Int) + 1) = ((i + 1 : Nat) : Int) := fun hh => by unfold maxLen at hle; rw [wrap_i64 (by omega) (by omega)]; omega
  simp -implicitDefEqProofs only [syms, symx, seval, c99, hva, hlv]
  refine forkD (fun hlt => ?_) (fun hlt => ?_)
  rotate_left
  · repeat' (first | simp -implicitDefEqProofs only [syms, symx, seval, c99] | ((with_reducible first | apply forkD | apply forkB | apply forkN | apply forkNP | apply forkNot) <;> intro _))
    exact h1k (by omega) _ (z.upW _ _ (by omega))
  obtain ⟨r, hr, hr'⟩ := amElem (l := l) (i := i) (by omega)
  repeat' (first | simp -implicitDefEqProofs only [syms, symx, seval, c99, hva] | ((with_reducible first | apply forkD | apply forkB | apply forkN | apply forkNP | apply forkNot) <;> intro _) | with_reducible_and_instances refine ixs_at (hl.mono z.inc) ds60 sz9 (by omega) hr (fun p hp => ?_) | with_reducible_and_instances refine ld_one hp ag9 ?_)
  · exact h2k _ (z.upW _ _ (by omega))
  · rw [hw (by omega)]
    (rw [hI1]; with_reducible refine loopN_normal (m := _) ?_ ⟨i + 1, IntKind.i64.wrap (s + r.size), _, rfl, z, ⟨rfl, by omega⟩, junk (by kernel_rfl)⟩; omega)
def hasS (l : List ByteArray) (x : ByteArray) : Bool := l.any (fun y => decide (y = x))
theorem hasS_iff {l : List ByteArray} {x : ByteArray} : hasS l x = true ↔ x ∈ l := by
  unfold hasS
  rw [List.any_eq_true]
  exact ⟨fun ⟨y, h1, h2⟩ => of_decide_eq_true h2 ▸ h1, fun h => ⟨x, h, decide_eq_true rfl⟩⟩
theorem ok_prin (l : List ByteArray) (who : ByteArray) (p0 p1 p2 p5 p6 : Value) (q b : Int) (h : Heap) (hl : Sl Rep.str h p0 l) (K : Value → Heap → Prop) (hk : ∀ h', Ext h h' → K (.bool (hasS l who)) h') : Ok Try.prog tab ov 40 [polVal p0 p1 p2 p5 p6 q b, .string who] h K := by
  rw [lay_nil h]
  have z := Ext.refl h
  have hle := hl.le
  have hva := vSelf p0
  have hlv := fun (hh : Heap) => hl.lenA ds60 hh
  refine Ok.into rfl tab_fn40 (bodyF N40) rfl (m := 18) rfl ?_
  repeat' (first | simp -implicitDefEqProofs only [syms, symx, seval, c40, cells_pol, pol0, hva, hlv] | ((with_reducible first | apply forkD | apply forkB | apply forkN | apply forkNP | apply forkNot) <;> intro _) | with_reducible_and_instances refine ixs_at (hl.mono z.inc) ds60 sz9 (by omega) hr (fun p hp => ?_) | with_reducible_and_instances refine ld_one hp ag9 ?_)
  refine W_fold (fun h' x hq => ?_)
  have q0 := hq 0 _ rfl
  clear hq
  (replace z := z.overW x (by (try simp only [lsz]); omega); rw [lay_nil h'])
  obtain ⟨A0, hA0⟩ : ∃ A0, A0 = h.size + 0 := ⟨_, rfl⟩
  rw [← hA0] at q0
  rw [← hA0]
  obtain ⟨I1, hI1⟩ : ∃ I : Nat → Env → Heap → Prop, I = (fun n e h' => ∃ (i : Nat) (h1 : Heap), h' = h1.lay [] h1.low ∧ Ext h h1 ∧ (n = l.length - i ∧ i ≤ l.length ∧ (∀ x ∈ l.take i, decide (x = who) = false) ∧ Holds h1 A0 (.row (polCells p0 p1 p2 p5 p6 q b) 66 false)) ∧ ∃ J : Nat → Value, e = (J 0 :: .string who :: .pointer (some ⟨A0, 0, none⟩) :: jr J 3 2 (.int .i64 i :: jr J 6 14 ([])))) := ⟨_, rfl⟩
  refine W_loopN I1 _ (by rw [hI1]; exact ⟨0, _, rfl, z, ⟨rfl, by omega, by simp, q0⟩, junk (by kernel_rfl)⟩) ?_
  intro n e h' hin
  rw [hI1] at hin
  obtain ⟨i, h1', rfl, z, hinv, J, rfl⟩ := hin
  clear q0
  obtain ⟨rfl, hi, hall, q0⟩ := hinv
  have hw : i < l.length → IntKind.i64.wrap ((i : Int) + 1) = ((i + 1 : Nat) : Int) := fun hh => by unfold maxLen at hle; rw [wrap_i64 (by omega) (by omega)]; omega
  simp -implicitDefEqProofs only [syms, symx, seval, c40, q0.lay, pol0, hva, hlv]
  refine forkD (fun hlt => ?_) (fun hlt => ?_)
  rotate_left
  · rw [List.take_of_length_le (by omega)] at hall
    have hf : hasS l who = false := by unfold hasS; rw [List.any_eq_false]; intro x hx; rw [hall x hx]; decide
    rw [hf] at hk
    repeat' (first | simp -implicitDefEqProofs only [syms, symx, seval, c40] | ((with_reducible first | apply forkD | apply forkB | apply forkN | apply forkNP | apply forkNot) <;> intro _) | with_reducible_and_instances refine ixs_at (hl.mono z.inc) ds60 sz9 (by omega) hr (fun p hp => ?_) | with_reducible_and_instances refine ld_one hp ag9 ?_)
    exact hk _ (z.upW _ _ (by omega))
  obtain ⟨r, hr, hr'⟩ := amElem (l := l) (i := i) (by omega)
  repeat' (first | simp -implicitDefEqProofs only [syms, symx, seval, c40, q0.lay, pol0, hva] | ((with_reducible first | apply forkD | apply forkB | apply forkN | apply forkNP | apply forkNot) <;> intro _) | with_reducible_and_instances refine ixs_at (hl.mono z.inc) ds60 sz9 (by omega) hr (fun p hp => ?_) | with_reducible_and_instances refine ld_one hp ag9 ?_)
  · have he : r = who := by assumption
    rw [show hasS l who = true from hasS_iff.2 (he ▸ List.mem_of_getElem? hr')] at hk
    exact hk _ (z.upW _ _ (by omega))
  · have hne : ¬ r = who := by assumption
    rw [hw (by omega)]
    (rw [hI1]; with_reducible refine loopN_normal (m := _) ?_ ⟨i + 1, _, rfl, z, ⟨rfl, by omega, take_all (i := i) (P := fun x : ByteArray => decide (x = who) = false) hr' hall (decide_eq_false hne), q0⟩, junk (by kernel_rfl)⟩; omega)
theorem ok_lightPolicy (d : PolicyD) (p0 p1 p2 p5 p6 : Value) (q b : Int) (h : Heap) (hd : PolH h p0 p1 p2 p5 p6 d) (K : Value → Heap → Prop) (h1k : d.principals.length ≤ 70 → d.clears.length ≤ 70 → (∀ c ∈ d.clears, c.reads.length ≤ 40) → ∀ h', Ext h h' → K (.bool true) h') (h2k : ∀ h', Ext h h' → K (.bool false) h') : Ok Try.prog tab ov 37 [polVal p0 p1 p2 p5 p6 q b] h K := by
  rw [lay_nil h]
  have z := Ext.refl h
  have hv0 := vSelf p0
  have hv1 := vSelf p1
  have hv2 := vSelf p2
  have hv5 := vSelf p5
  have hv6 := vSelf p6
  have hl1 := fun (hh : Heap) => hd.s1.lenA ds61 hh
  have hl2 := fun (hh : Heap) => hd.s2.lenA ds62 hh
  have hl5 := fun (hh : Heap) => hd.s5.lenA ds63 hh
  have hl6 := fun (hh : Heap) => hd.s6.lenA ds64 hh
  refine Ok.into rfl tab_fn37 (bodyF N37) rfl (m := 134) rfl ?_
  repeat' (first | simp -implicitDefEqProofs only [syms, symx, seval, c37, cells_pol, pol0, pol1, pol2, pol5, pol6, hv0, hv1, hv2, hv5, hv6, hl1, hl2, hl5, hl6] | ((with_reducible first | apply forkD | apply forkB | apply forkN | apply forkNP | apply forkNot) <;> intro _) | with_reducible_and_instances refine ixs_at (hl.mono z.inc) ds60 sz9 (by omega) hr (fun p hp => ?_) | with_reducible_and_instances refine ld_one hp ag9 ?_ | ((with_reducible_and_instances apply unop_not); (· rfl)))
  refine ok_lightTexts d.principals p0 70 6000 _ (hd.s0.lay _ _) _ (fun e0 h' x => ?_) (fun h' x => ?_)
  rotate_left
  · have q0 := Holds.top (i := 0) x rfl
    ((skip); replace z := z.overW x (by (try simp only [lsz]); omega); (try replace q0 := q0.over x); rw [lay_nil h'])
    repeat' (first | simp -implicitDefEqProofs only [syms, symx, seval, c37, Bool.not_false] | ((with_reducible first | apply forkD | apply forkB | apply forkN | apply forkNP | apply forkNot) <;> intro _) | with_reducible_and_instances refine ixs_at (hl.mono z.inc) ds60 sz9 (by omega) hr (fun p hp => ?_) | with_reducible_and_instances refine ld_one hp ag9 ?_ | ((with_reducible_and_instances apply unop_not); (· rfl)))
    exact h2k _ (z.upW _ _ (by omega))
  have q0 := Holds.top (i := 0) x rfl
  ((skip); replace z := z.overW x (by (try simp only [lsz]); omega); (try replace q0 := q0.over x); rw [lay_nil h'])
  obtain ⟨A0, hA0⟩ : ∃ A0, A0 = h.size + 0 := ⟨_, rfl⟩
  rw [← hA0] at q0
  rw [← hA0]
  repeat' (first | simp -implicitDefEqProofs only [syms, symx, seval, c37, q0.lay, pol0, pol1, pol2, pol5, pol6, hv0, hv1, hv2, hv5, hv6, hl1, hl2, hl5, hl6, Bool.not_true] | ((with_reducible first | apply forkD | apply forkB | apply forkN | apply forkNP | apply forkNot) <;> intro _) | with_reducible_and_instances refine ixs_at (hl.mono z.inc) ds60 sz9 (by omega) hr (fun p hp => ?_) | with_reducible_and_instances refine ld_one hp ag9 ?_ | ((with_reducible_and_instances apply unop_not); (· rfl)))
  iterate 4 (· exact h2k _ (z.upW _ _ (by omega)))
  have e1 : d.preds.length ≤ 70 := by omega
  have e2 : d.clears.length ≤ 70 := by omega
  have e5 : d.rules.length ≤ 70 := by omega
  have e6 : d.grants.length ≤ 70 := by omega
  obtain ⟨I1, hI1⟩ : ∃ I : Nat → Env → Heap → Prop, I = (fun n e h' => ∃ (i : Nat) (h1 : Heap), h' = h1.lay [] h1.low ∧ Ext h h1 ∧ (n = d.preds.length - i ∧ i ≤ d.preds.length ∧ Holds h1 A0 (.row (polCells p0 p1 p2 p5 p6 q b) 66 false)) ∧ ∃ J : Nat → Value, e = (J 0 :: .pointer (some ⟨A0, 0, none⟩) :: J 2 :: .int .i64 i :: jr J 4 131 ([]))) := ⟨_, rfl⟩
  refine W_loopN I1 _ (by rw [hI1]; exact ⟨0, _, rfl, z, ⟨rfl, by omega, q0⟩, junk (by kernel_rfl)⟩) ?_
  intro n e h' hin
  rw [hI1] at hin
  obtain ⟨i, h1', rfl, z, hinv, J, rfl⟩ := hin
  clear q0
  obtain ⟨rfl, hi, q0⟩ := hinv
  have hw : IntKind.i64.wrap ((i : Int) + 1) = ((i + 1 : Nat) : Int) := by rw [wrap_i64 (by omega) (by omega)]; omega
  simp -implicitDefEqProofs only [syms, symx, seval, c37, q0.lay, pol0, pol1, pol2, pol5, pol6, hv0, hv1, hv2, hv5, hv6, hl1, hl2, hl5, hl6, Bool.not_true]
  refine forkD (fun hlt => ?_) (fun hlt => ?_)
  · obtain ⟨r, hr, hr'⟩ := amElem (l := d.preds) (i := i) (by omega)
    repeat' (first | simp -implicitDefEqProofs only [syms, symx, seval, c37, q0.lay, pol0, pol1, pol2, pol5, pol6, hv0, hv1, hv2, hv5, hv6, hl1, hl2, hl5, hl6, Bool.not_true] | ((with_reducible first | apply forkD | apply forkB | apply forkN | apply forkNP | apply forkNot) <;> intro _) | with_reducible_and_instances refine ixP_at (hd.s1.mono z.inc) ds61 sz123 (by omega) hr (fun p hp => ?_) | with_reducible_and_instances refine fdP0 hp fa123_0 (fun q hq => ?_) | with_reducible_and_instances refine ld_one hq ag9 ?_ | ((with_reducible_and_instances apply unop_not); (· rfl)))
    · exact h2k _ (z.upW _ _ (by omega))
    rw [hw]
    (rw [hI1]; with_reducible refine loopN_normal (m := _) ?_ ⟨i + 1, _, rfl, z, ⟨rfl, by omega, q0⟩, junk (by kernel_rfl)⟩; omega)
  clear hi hlt hw
  simp -implicitDefEqProofs only [syms, symx, seval, c37, q0.lay, pol0, pol1, pol2, pol5, pol6, hv0, hv1, hv2, hv5, hv6, hl1, hl2, hl5, hl6, Bool.not_true]
  obtain ⟨I2, hI2⟩ : ∃ I : Nat → Env → Heap → Prop, I = (fun n e h' => ∃ (i : Nat) (h1 : Heap), h' = h1.lay [] h1.low ∧ Ext h h1 ∧ (n = d.clears.length - i ∧ i ≤ d.clears.length ∧ (∀ c ∈ d.clears.take i, c.reads.length ≤ 40) ∧ Holds h1 A0 (.row (polCells p0 p1 p2 p5 p6 q b) 66 false)) ∧ ∃ J : Nat → Value, e = (J 0 :: .pointer (some ⟨A0, 0, none⟩) :: jr J 2 2 (.int .i64 i :: jr J 5 130 ([])))) := ⟨_, rfl⟩
  refine W_loopN I2 _ (by rw [hI2]; exact ⟨0, _, rfl, z, ⟨rfl, by omega, by simp, q0⟩, junk (by kernel_rfl)⟩) ?_
  intro n e h' hin
  rw [hI2] at hin
  obtain ⟨i, h1', rfl, z, hinv, J, rfl⟩ := hin
  clear q0
  obtain ⟨rfl, hi, hall, q0⟩ := hinv
  have hw : IntKind.i64.wrap ((i : Int) + 1) = ((i + 1 : Nat) : Int) := by rw [wrap_i64 (by omega) (by omega)]; omega
  simp -implicitDefEqProofs only [syms, symx, seval, c37, q0.lay, pol0, pol1, pol2, pol5, pol6, hv0, hv1, hv2, hv5, hv6, hl1, hl2, hl5, hl6, Bool.not_true]
  refine forkD (fun hlt => ?_) (fun hlt => ?_)
  · obtain ⟨r, hr, hr'⟩ := amElem (l := d.clears) (i := i) (by omega)
    repeat' (first | simp -implicitDefEqProofs only [syms, symx, seval, c37, q0.lay, pol0, pol1, pol2, pol5, pol6, hv0, hv1, hv2, hv5, hv6, hl1, hl2, hl5, hl6, Bool.not_true] | ((with_reducible first | apply forkD | apply forkB | apply forkN | apply forkNP | apply forkNot) <;> intro _) | with_reducible_and_instances refine ixC_at (hd.s2.mono z.inc) ds62 sz73 (by omega) hr (fun p b hb hp => ?_) | with_reducible_and_instances refine fdP0 hp fa73_0 (fun q hq => ?_) | with_reducible_and_instances refine ld_one hq ag9 ?_ | with_reducible_and_instances refine fdP1 hp fa73_1 (fun q hq => ?_) | with_reducible_and_instances refine ld_one hq ag60 ?_ | ((with_reducible_and_instances apply unop_not); (· rfl)))
    · exact h2k _ (z.upW _ _ (by omega))
    refine ok_lightTexts r.reads _ 40 3000 _ (hb.lay _ _) _ (fun er h' x => ?_) (fun h' x => ?_)
    rotate_left
    · ((skip); replace z := z.overW x (by (try simp only [lsz]); omega); (try replace q0 := q0.over x); rw [lay_nil h'])
      repeat' (first | simp -implicitDefEqProofs only [syms, symx, seval, c37, Bool.not_false] | ((with_reducible first | apply forkD | apply forkB | apply forkN | apply forkNP | apply forkNot) <;> intro _) | with_reducible_and_instances refine ixC_at (hd.s2.mono z.inc) ds62 sz73 (by omega) hr (fun p b hb hp => ?_) | with_reducible_and_instances refine fdP0 hp fa73_0 (fun q hq => ?_) | with_reducible_and_instances refine ld_one hq ag9 ?_ | with_reducible_and_instances refine fdP1 hp fa73_1 (fun q hq => ?_) | with_reducible_and_instances refine ld_one hq ag60 ?_ | ((with_reducible_and_instances apply unop_not); (· rfl)))
      exact h2k _ (z.upW _ _ (by omega))
    ((skip); replace z := z.overW x (by (try simp only [lsz]); omega); (try replace q0 := q0.over x); rw [lay_nil h'])
    repeat' (first | simp -implicitDefEqProofs only [syms, symx, seval, c37, Bool.not_true] | ((with_reducible first | apply forkD | apply forkB | apply forkN | apply forkNP | apply forkNot) <;> intro _) | with_reducible_and_instances refine ixC_at (hd.s2.mono z.inc) ds62 sz73 (by omega) hr (fun p b hb hp => ?_) | with_reducible_and_instances refine fdP0 hp fa73_0 (fun q hq => ?_) | with_reducible_and_instances refine ld_one hq ag9 ?_ | with_reducible_and_instances refine fdP1 hp fa73_1 (fun q hq => ?_) | with_reducible_and_instances refine ld_one hq ag60 ?_ | ((with_reducible_and_instances apply unop_not); (· rfl)))
    rw [hw]
    (rw [hI2]; with_reducible refine loopN_normal (m := _) ?_ ⟨i + 1, _, rfl, z, ⟨rfl, by omega, take_all (i := i) (P := fun c : ClearD => c.reads.length ≤ 40) hr' hall (by omega), q0⟩, junk (by kernel_rfl)⟩; omega)
  rw [List.take_of_length_le (by omega)] at hall
  clear hi hlt hw
  simp -implicitDefEqProofs only [syms, symx, seval, c37, q0.lay, pol0, pol1, pol2, pol5, pol6, hv0, hv1, hv2, hv5, hv6, hl1, hl2, hl5, hl6, Bool.not_true]
  obtain ⟨I3, hI3⟩ : ∃ I : Nat → Env → Heap → Prop, I = (fun n e h' => ∃ (i : Nat) (h1 : Heap), h' = h1.lay [] h1.low ∧ Ext h h1 ∧ (n = d.rules.length - i ∧ i ≤ d.rules.length ∧ Holds h1 A0 (.row (polCells p0 p1 p2 p5 p6 q b) 66 false)) ∧ ∃ J : Nat → Value, e = (J 0 :: .pointer (some ⟨A0, 0, none⟩) :: jr J 2 3 (.int .i64 i :: jr J 6 129 ([])))) := ⟨_, rfl⟩
  refine W_loopN I3 _ (by rw [hI3]; exact ⟨0, _, rfl, z, ⟨rfl, by omega, q0⟩, junk (by kernel_rfl)⟩) ?_
  intro n e h' hin
  rw [hI3] at hin
  obtain ⟨i, h1', rfl, z, hinv, J, rfl⟩ := hin
  clear q0
  obtain ⟨rfl, hi, q0⟩ := hinv
  have hw : IntKind.i64.wrap ((i : Int) + 1) = ((i + 1 : Nat) : Int) := by rw [wrap_i64 (by omega) (by omega)]; omega
  simp -implicitDefEqProofs only [syms, symx, seval, c37, q0.lay, pol0, pol1, pol2, pol5, pol6, hv0, hv1, hv2, hv5, hv6, hl1, hl2, hl5, hl6, Bool.not_true]
  refine forkD (fun hlt => ?_) (fun hlt => ?_)
  · obtain ⟨r, hr, hr'⟩ := amElem (l := d.rules) (i := i) (by omega)
    repeat' (first | simp -implicitDefEqProofs only [syms, symx, seval, c37, q0.lay, pol0, pol1, pol2, pol5, pol6, hv0, hv1, hv2, hv5, hv6, hl1, hl2, hl5, hl6, Bool.not_true] | ((with_reducible first | apply forkD | apply forkB | apply forkN | apply forkNP | apply forkNot) <;> intro _) | with_reducible_and_instances refine ixc_at (hd.s5.mono z.inc) ds63 sz124 (by omega) hr (fun p b hb hp => ?_) | with_reducible_and_instances refine fdc0 hp fa124_0 (fun q hq => ?_) | with_reducible_and_instances refine lda hq ag39 sz39 ?_ | with_reducible_and_instances refine fdc1 hp fa124_1 (fun q hq => ?_) | with_reducible_and_instances refine ld_one hq ag23 ?_ | ((with_reducible_and_instances apply unop_not); (· rfl)))
    refine ok_light r.head _ _ (fun hlx h' x => ?_) (fun hlx h' x => ?_)
    rotate_left
    · ((skip); replace z := z.overW x (by (try simp only [lsz]); omega); (try replace q0 := q0.over x); rw [lay_nil h'])
      repeat' (first | simp -implicitDefEqProofs only [syms, symx, seval, c37, Bool.not_false] | ((with_reducible first | apply forkD | apply forkB | apply forkN | apply forkNP | apply forkNot) <;> intro _) | with_reducible_and_instances refine ixc_at (hd.s5.mono z.inc) ds63 sz124 (by omega) hr (fun p b hb hp => ?_) | with_reducible_and_instances refine fdc0 hp fa124_0 (fun q hq => ?_) | with_reducible_and_instances refine lda hq ag39 sz39 ?_ | with_reducible_and_instances refine fdc1 hp fa124_1 (fun q hq => ?_) | with_reducible_and_instances refine ld_one hq ag23 ?_ | ((with_reducible_and_instances apply unop_not); (· rfl)))
      exact h2k _ (z.upW _ _ (by omega))
    ((skip); replace z := z.overW x (by (try simp only [lsz]); omega); (try replace q0 := q0.over x); rw [lay_nil h'])
    repeat' (first | simp -implicitDefEqProofs only [syms, symx, seval, c37, q0.lay, pol0, pol1, pol2, pol5, pol6, hv0, hv1, hv2, hv5, hv6, hl1, hl2, hl5, hl6, Bool.not_true] | ((with_reducible first | apply forkD | apply forkB | apply forkN | apply forkNP | apply forkNot) <;> intro _) | with_reducible_and_instances refine ixc_at (hd.s5.mono z.inc) ds63 sz124 (by omega) hr (fun p b hb hp => ?_) | with_reducible_and_instances refine fdc0 hp fa124_0 (fun q hq => ?_) | with_reducible_and_instances refine lda hq ag39 sz39 ?_ | with_reducible_and_instances refine fdc1 hp fa124_1 (fun q hq => ?_) | with_reducible_and_instances refine ld_one hq ag23 ?_ | ((with_reducible_and_instances apply unop_not); (· rfl)))
    refine ok_lights r.body _ 9 _ (Sl.mono (by assumption) (Inc.lay _ _ _)) _ (fun _ _ h' x => ?_) (fun h' x => ?_)
    rotate_left
    · ((skip); replace z := z.overW x (by (try simp only [lsz]); omega); (try replace q0 := q0.over x); rw [lay_nil h'])
      repeat' (first | simp -implicitDefEqProofs only [syms, symx, seval, c37, Bool.not_false] | ((with_reducible first | apply forkD | apply forkB | apply forkN | apply forkNP | apply forkNot) <;> intro _) | with_reducible_and_instances refine ixc_at (hd.s5.mono z.inc) ds63 sz124 (by omega) hr (fun p b hb hp => ?_) | with_reducible_and_instances refine fdc0 hp fa124_0 (fun q hq => ?_) | with_reducible_and_instances refine lda hq ag39 sz39 ?_ | with_reducible_and_instances refine fdc1 hp fa124_1 (fun q hq => ?_) | with_reducible_and_instances refine ld_one hq ag23 ?_ | ((with_reducible_and_instances apply unop_not); (· rfl)))
      exact h2k _ (z.upW _ _ (by omega))
    ((skip); replace z := z.overW x (by (try simp only [lsz]); omega); (try replace q0 := q0.over x); rw [lay_nil h'])
    repeat' (first | simp -implicitDefEqProofs only [syms, symx, seval, c37, Bool.not_true] | ((with_reducible first | apply forkD | apply forkB | apply forkN | apply forkNP | apply forkNot) <;> intro _) | with_reducible_and_instances refine ixc_at (hd.s5.mono z.inc) ds63 sz124 (by omega) hr (fun p b hb hp => ?_) | with_reducible_and_instances refine fdc0 hp fa124_0 (fun q hq => ?_) | with_reducible_and_instances refine lda hq ag39 sz39 ?_ | with_reducible_and_instances refine fdc1 hp fa124_1 (fun q hq => ?_) | with_reducible_and_instances refine ld_one hq ag23 ?_ | ((with_reducible_and_instances apply unop_not); (· rfl)))
    rw [hw]
    (rw [hI3]; with_reducible refine loopN_normal (m := _) ?_ ⟨i + 1, _, rfl, z, ⟨rfl, by omega, q0⟩, junk (by kernel_rfl)⟩; omega)
  clear hi hlt hw
  simp -implicitDefEqProofs only [syms, symx, seval, c37, q0.lay, pol0, pol1, pol2, pol5, pol6, hv0, hv1, hv2, hv5, hv6, hl1, hl2, hl5, hl6, Bool.not_true]
  obtain ⟨I4, hI4⟩ : ∃ I : Nat → Env → Heap → Prop, I = (fun n e h' => ∃ (i : Nat) (h1 : Heap), h' = h1.lay [] h1.low ∧ Ext h h1 ∧ (n = d.grants.length - i ∧ i ≤ d.grants.length ∧ Holds h1 A0 (.row (polCells p0 p1 p2 p5 p6 q b) 66 false)) ∧ ∃ J : Nat → Value, e = (J 0 :: .pointer (some ⟨A0, 0, none⟩) :: jr J 2 4 (.int .i64 i :: jr J 7 128 ([])))) := ⟨_, rfl⟩
  refine W_loopN I4 _ (by rw [hI4]; exact ⟨0, _, rfl, z, ⟨rfl, by omega, q0⟩, junk (by kernel_rfl)⟩) ?_
  intro n e h' hin
  rw [hI4] at hin
  obtain ⟨i, h1', rfl, z, hinv, J, rfl⟩ := hin
  clear q0
  obtain ⟨rfl, hi, q0⟩ := hinv
  have hw : IntKind.i64.wrap ((i : Int) + 1) = ((i + 1 : Nat) : Int) := by rw [wrap_i64 (by omega) (by omega)]; omega
  simp -implicitDefEqProofs only [syms, symx, seval, c37, q0.lay, pol0, pol1, pol2, pol5, pol6, hv0, hv1, hv2, hv5, hv6, hl1, hl2, hl5, hl6, Bool.not_true]
  refine forkD (fun hlt => ?_) (fun hlt => ?_)
  rotate_left
  · repeat' (first | simp -implicitDefEqProofs only [syms, symx, seval, c37] | ((with_reducible first | apply forkD | apply forkB | apply forkN | apply forkNP | apply forkNot) <;> intro _) | with_reducible_and_instances refine ixc_at (hd.s5.mono z.inc) ds63 sz124 (by omega) hr (fun p b hb hp => ?_) | with_reducible_and_instances refine fdc0 hp fa124_0 (fun q hq => ?_) | with_reducible_and_instances refine lda hq ag39 sz39 ?_ | with_reducible_and_instances refine fdc1 hp fa124_1 (fun q hq => ?_) | with_reducible_and_instances refine ld_one hq ag23 ?_ | ((with_reducible_and_instances apply unop_not); (· rfl)))
    exact h1k (by omega) (by omega) hall _ (z.upW _ _ (by omega))
  obtain ⟨r, hr, hr'⟩ := amElem (l := d.grants) (i := i) (by omega)
  repeat' (first | simp -implicitDefEqProofs only [syms, symx, seval, c37, q0.lay, pol0, pol1, pol2, pol5, pol6, hv0, hv1, hv2, hv5, hv6, hl1, hl2, hl5, hl6, Bool.not_true] | ((with_reducible first | apply forkD | apply forkB | apply forkN | apply forkNP | apply forkNot) <;> intro _) | with_reducible_and_instances refine ixG_at (hd.s6.mono z.inc) ds64 sz126 (by omega) hr (fun p b hb hp => ?_) | with_reducible_and_instances refine fdG0 hp fa126_0 (fun q hq => ?_) | with_reducible_and_instances refine ld_one hq ag9 ?_ | with_reducible_and_instances refine fdG1 hp fa126_1 (fun q hq => ?_) | with_reducible_and_instances refine lda hq ag39 sz39 ?_ | with_reducible_and_instances refine fdG2 hp fa126_2 (fun q hq => ?_) | with_reducible_and_instances refine ld_one hq ag23 ?_ | ((with_reducible_and_instances apply unop_not); (· rfl)))
  · exact h2k _ (z.upW _ _ (by omega))
  refine ok_light r.head _ _ (fun hlx h' x => ?_) (fun hlx h' x => ?_)
  rotate_left
  · ((skip); replace z := z.overW x (by (try simp only [lsz]); omega); (try replace q0 := q0.over x); rw [lay_nil h'])
    repeat' (first | simp -implicitDefEqProofs only [syms, symx, seval, c37, Bool.not_false] | ((with_reducible first | apply forkD | apply forkB | apply forkN | apply forkNP | apply forkNot) <;> intro _) | with_reducible_and_instances refine ixG_at (hd.s6.mono z.inc) ds64 sz126 (by omega) hr (fun p b hb hp => ?_) | with_reducible_and_instances refine fdG0 hp fa126_0 (fun q hq => ?_) | with_reducible_and_instances refine ld_one hq ag9 ?_ | with_reducible_and_instances refine fdG1 hp fa126_1 (fun q hq => ?_) | with_reducible_and_instances refine lda hq ag39 sz39 ?_ | with_reducible_and_instances refine fdG2 hp fa126_2 (fun q hq => ?_) | with_reducible_and_instances refine ld_one hq ag23 ?_ | ((with_reducible_and_instances apply unop_not); (· rfl)))
    exact h2k _ (z.upW _ _ (by omega))
  ((skip); replace z := z.overW x (by (try simp only [lsz]); omega); (try replace q0 := q0.over x); rw [lay_nil h'])
  repeat' (first | simp -implicitDefEqProofs only [syms, symx, seval, c37, q0.lay, pol0, pol1, pol2, pol5, pol6, hv0, hv1, hv2, hv5, hv6, hl1, hl2, hl5, hl6, Bool.not_true] | ((with_reducible first | apply forkD | apply forkB | apply forkN | apply forkNP | apply forkNot) <;> intro _) | with_reducible_and_instances refine ixG_at (hd.s6.mono z.inc) ds64 sz126 (by omega) hr (fun p b hb hp => ?_) | with_reducible_and_instances refine fdG0 hp fa126_0 (fun q hq => ?_) | with_reducible_and_instances refine ld_one hq ag9 ?_ | with_reducible_and_instances refine fdG1 hp fa126_1 (fun q hq => ?_) | with_reducible_and_instances refine lda hq ag39 sz39 ?_ | with_reducible_and_instances refine fdG2 hp fa126_2 (fun q hq => ?_) | with_reducible_and_instances refine ld_one hq ag23 ?_ | ((with_reducible_and_instances apply unop_not); (· rfl)))
  refine ok_lights r.body _ 9 _ (Sl.mono (by assumption) (Inc.lay _ _ _)) _ (fun _ _ h' x => ?_) (fun h' x => ?_)
  rotate_left
  · ((skip); replace z := z.overW x (by (try simp only [lsz]); omega); (try replace q0 := q0.over x); rw [lay_nil h'])
    repeat' (first | simp -implicitDefEqProofs only [syms, symx, seval, c37, Bool.not_false] | ((with_reducible first | apply forkD | apply forkB | apply forkN | apply forkNP | apply forkNot) <;> intro _) | with_reducible_and_instances refine ixG_at (hd.s6.mono z.inc) ds64 sz126 (by omega) hr (fun p b hb hp => ?_) | with_reducible_and_instances refine fdG0 hp fa126_0 (fun q hq => ?_) | with_reducible_and_instances refine ld_one hq ag9 ?_ | with_reducible_and_instances refine fdG1 hp fa126_1 (fun q hq => ?_) | with_reducible_and_instances refine lda hq ag39 sz39 ?_ | with_reducible_and_instances refine fdG2 hp fa126_2 (fun q hq => ?_) | with_reducible_and_instances refine ld_one hq ag23 ?_ | ((with_reducible_and_instances apply unop_not); (· rfl)))
    exact h2k _ (z.upW _ _ (by omega))
  ((skip); replace z := z.overW x (by (try simp only [lsz]); omega); (try replace q0 := q0.over x); rw [lay_nil h'])
  repeat' (first | simp -implicitDefEqProofs only [syms, symx, seval, c37, Bool.not_true] | ((with_reducible first | apply forkD | apply forkB | apply forkN | apply forkNP | apply forkNot) <;> intro _) | with_reducible_and_instances refine ixG_at (hd.s6.mono z.inc) ds64 sz126 (by omega) hr (fun p b hb hp => ?_) | with_reducible_and_instances refine fdG0 hp fa126_0 (fun q hq => ?_) | with_reducible_and_instances refine ld_one hq ag9 ?_ | with_reducible_and_instances refine fdG1 hp fa126_1 (fun q hq => ?_) | with_reducible_and_instances refine lda hq ag39 sz39 ?_ | with_reducible_and_instances refine fdG2 hp fa126_2 (fun q hq => ?_) | with_reducible_and_instances refine ld_one hq ag23 ?_ | ((with_reducible_and_instances apply unop_not); (· rfl)))
  rw [hw]
  (rw [hI4]; with_reducible refine loopN_normal (m := _) ?_ ⟨i + 1, _, rfl, z, ⟨rfl, by omega, q0⟩, junk (by kernel_rfl)⟩; omega)
end Go.Proofs.Ytompindebndddaa
