/- Walks: what is gone through of a policy, all bounds. Written out by fill2.py. No condition. -/
import Derived.Test.YtemapihoobmonaaGreatDoorG42
import Derived.Test.YtemapihoobmonaaGreatDoorG18
import Derived.Test.YtemapihoobmonaaGreatDoorG47
import Derived.Test.YtemapihoobmonaaGreatDoorG10
namespace Go.Proofs.YtemapihoobmonaaGreatDoor
open Go.Am
set_option linter.unusedSimpArgs false
set_option linter.unusedVariables false
set_option maxRecDepth 100000
set_option maxHeartbeats 0
theorem zii (d : PolicyD) (p0 p1 p2 p5 p6 : Value) (q b : Int) (h : Heap) (hd : PolH h p0 p1 p2 p5 p6 d) (K : Value → Heap → Prop) (h1k : d.principals.length ≤ 70 → d.preds.length ≤ 70 → d.clears.length ≤ 70 → (∀ c ∈ d.clears, c.reads.length ≤ 40) → d.rules.length ≤ 70 → (∀ r ∈ d.rules, r.body.length ≤ 9) → d.grants.length ≤ 70 → (∀ g ∈ d.grants, g.body.length ≤ 9) → ∀ h', Ext h h' → K (.bool true) h') (h2k : ∀ h', Ext h h' → K (.bool false) h') : Ok Tryz.prog tab ov 23 [zb1 p0 p1 p2 p5 p6 q b] h K := by
  rw [zaa h]
  have z := Ext.refl h
  have hv0 := zbg p0
  have hv1 := zbg p1
  have hv2 := zbg p2
  have hv5 := zbg p5
  have hv6 := zbg p6
  have hl1 := fun (hh : Heap) => hd.s1.lenA ds50 hh
  have hl2 := fun (hh : Heap) => hd.s2.lenA ds51 hh
  have hl5 := fun (hh : Heap) => hd.s5.lenA ds52 hh
  have hl6 := fun (hh : Heap) => hd.s6.lenA ds53 hh
  refine Ok.into rfl zuX (zaD N23) rfl (m := 134) rfl ?_
  repeat' ( simp -implicitDefEqProofs only [syms, symx, seval, c23, zav, pol0, pol1, pol2, pol5, pol6, hv0, hv1, hv2, hv5, hv6, hl1, hl2, hl5, hl6])
  refine zgj d.principals p0 70 6000 _ (hd.s0.lay _ _) _ (fun e0 h' x => ?_) (fun h' x => ?_)
  rotate_left
  · have q0 := Holds.top (i := 0) x rfl
    ((skip); replace z := z.overW x (by (try simp only [lsz]); omega); (try replace q0 := q0.over x); rw [zaa h'])
    repeat' (first | simp -implicitDefEqProofs only [syms, symx, seval, c23, Bool.not_false] | ((with_reducible_and_instances apply zal); (· rfl)))
    exact h2k _ (z.upW _ _ (by omega))
  have q0 := Holds.top (i := 0) x rfl
  ((skip); replace z := z.overW x (by (try simp only [lsz]); omega); (try replace q0 := q0.over x); rw [zaa h'])
  obtain ⟨A0, hA0⟩ : ∃ A0, A0 = h.size + 0 := ⟨_, rfl⟩
  rw [← hA0] at q0
  rw [← hA0]
  repeat' (first | simp -implicitDefEqProofs only [syms, symx, seval, c23, q0.lay, pol0, pol1, pol2, pol5, pol6, hv0, hv1, hv2, hv5, hv6, hl1, hl2, hl5, hl6, Bool.not_true] | ((with_reducible  apply zau ) <;> intro _) | ((with_reducible_and_instances apply zal); (· rfl)))
  iterate 4 (· exact h2k _ (z.upW _ _ (by omega)))
  have e1 : d.preds.length ≤ 70 := by omega
  have e2 : d.clears.length ≤ 70 := by omega
  have e5 : d.rules.length ≤ 70 := by omega
  have e6 : d.grants.length ≤ 70 := by omega
  obtain ⟨I1, hI1⟩ : ∃ I : Nat → Env → Heap → Prop, I = (fun n e h' => ∃ (i : Nat) (h1 : Heap), h' = h1.lay [] h1.low ∧ Ext h h1 ∧ (n = d.preds.length - i ∧ i ≤ d.preds.length ∧ Holds h1 A0 (.row (zar p0 p1 p2 p5 p6 q b) 55 false)) ∧ ∃ J : Nat → Value, e = (J 0 :: .pointer (some ⟨A0, 0, none⟩) :: J 2 :: .int .i64 i :: jr J 4 131 ([]))) := ⟨_, rfl⟩
  refine zaJ I1 _ (by rw [hI1]; exact ⟨0, _, rfl, z, ⟨rfl, by omega, q0⟩, junk (by kernel_rfl)⟩) ?_
  intro n e h' hin
  rw [hI1] at hin
  obtain ⟨i, h1', rfl, z, hinv, J, rfl⟩ := hin
  clear q0
  obtain ⟨rfl, hi, q0⟩ := hinv
  have hw : IntKind.i64.wrap ((i : Int) + 1) = ((i + 1 : Nat) : Int) := by rw [zai (by omega) (by omega)]; omega
  simp -implicitDefEqProofs only [syms, symx, seval, c23, q0.lay, pol0, pol1, pol2, pol5, pol6, hv0, hv1, hv2, hv5, hv6, hl1, hl2, hl5, hl6, Bool.not_true]
  refine zau (fun hlt => ?_) (fun hlt => ?_)
  · obtain ⟨r, hr, hr'⟩ := zby (l := d.preds) (i := i) (by omega)
    repeat' (first | simp -implicitDefEqProofs only [syms, symx, seval, c23, q0.lay, pol0, pol1, pol2, pol5, pol6, hv0, hv1, hv2, hv5, hv6, hl1, hl2, hl5, hl6, Bool.not_true] | ((with_reducible  apply zau ) <;> intro _) | with_reducible_and_instances refine zye (hd.s1.mono z.inc) ds50 zzn (by omega) hr (fun p hp => ?_) | with_reducible_and_instances refine fdP0 hp zr4 (fun q hq => ?_) | with_reducible_and_instances refine zbn hq ag9 ?_)
    · exact h2k _ (z.upW _ _ (by omega))
    rw [hw]
    (rw [hI1]; with_reducible refine zah (m := _) ?_ ⟨i + 1, _, rfl, z, ⟨rfl, by omega, q0⟩, junk (by kernel_rfl)⟩; omega)
  clear hi hlt hw
  simp -implicitDefEqProofs only [syms, symx, seval, c23, q0.lay, pol0, pol1, pol2, pol5, pol6, hv0, hv1, hv2, hv5, hv6, hl1, hl2, hl5, hl6, Bool.not_true]
  obtain ⟨I2, hI2⟩ : ∃ I : Nat → Env → Heap → Prop, I = (fun n e h' => ∃ (i : Nat) (h1 : Heap), h' = h1.lay [] h1.low ∧ Ext h h1 ∧ (n = d.clears.length - i ∧ i ≤ d.clears.length ∧ (∀ c ∈ d.clears.take i, c.reads.length ≤ 40) ∧ Holds h1 A0 (.row (zar p0 p1 p2 p5 p6 q b) 55 false)) ∧ ∃ J : Nat → Value, e = (J 0 :: .pointer (some ⟨A0, 0, none⟩) :: jr J 2 2 (.int .i64 i :: jr J 5 130 ([])))) := ⟨_, rfl⟩
  refine zaJ I2 _ (by rw [hI2]; exact ⟨0, _, rfl, z, ⟨rfl, by omega, by simp, q0⟩, junk (by kernel_rfl)⟩) ?_
  intro n e h' hin
  rw [hI2] at hin
  obtain ⟨i, h1', rfl, z, hinv, J, rfl⟩ := hin
  clear q0
  obtain ⟨rfl, hi, hall, q0⟩ := hinv
  have hw : IntKind.i64.wrap ((i : Int) + 1) = ((i + 1 : Nat) : Int) := by rw [zai (by omega) (by omega)]; omega
  simp -implicitDefEqProofs only [syms, symx, seval, c23, q0.lay, pol0, pol1, pol2, pol5, pol6, hv0, hv1, hv2, hv5, hv6, hl1, hl2, hl5, hl6, Bool.not_true]
  refine zau (fun hlt => ?_) (fun hlt => ?_)
  · obtain ⟨r, hr, hr'⟩ := zby (l := d.clears) (i := i) (by omega)
    repeat' (first | simp -implicitDefEqProofs only [syms, symx, seval, c23, q0.lay, pol0, pol1, pol2, pol5, pol6, hv0, hv1, hv2, hv5, hv6, hl1, hl2, hl5, hl6, Bool.not_true] | ((with_reducible  apply zau ) <;> intro _) | with_reducible_and_instances refine zhu (hd.s2.mono z.inc) ds51 zh7 (by omega) hr (fun p b hb hp => ?_) | with_reducible_and_instances refine fdP0 hp zfN (fun q hq => ?_) | with_reducible_and_instances refine zbn hq ag9 ?_ | with_reducible_and_instances refine fdP1 hp zec (fun q hq => ?_) | with_reducible_and_instances refine zbn hq ag49 ?_)
    · exact h2k _ (z.upW _ _ (by omega))
    refine zgj r.reads _ 40 3000 _ (hb.lay _ _) _ (fun er h' x => ?_) (fun h' x => ?_)
    rotate_left
    · ((skip); replace z := z.overW x (by (try simp only [lsz]); omega); (try replace q0 := q0.over x); rw [zaa h'])
      repeat' (first | simp -implicitDefEqProofs only [syms, symx, seval, c23, Bool.not_false] | ((with_reducible_and_instances apply zal); (· rfl)))
      exact h2k _ (z.upW _ _ (by omega))
    ((skip); replace z := z.overW x (by (try simp only [lsz]); omega); (try replace q0 := q0.over x); rw [zaa h'])
    repeat' (first | simp -implicitDefEqProofs only [syms, symx, seval, c23, Bool.not_true] | ((with_reducible_and_instances apply zal); (· rfl)))
    rw [hw]
    (rw [hI2]; with_reducible refine zah (m := _) ?_ ⟨i + 1, _, rfl, z, ⟨rfl, by omega, zbK (i := i) (P := fun c : ClearD => c.reads.length ≤ 40) hr' hall (by omega), q0⟩, junk (by kernel_rfl)⟩; omega)
  rw [List.take_of_length_le (by omega)] at hall
  clear hi hlt hw
  simp -implicitDefEqProofs only [syms, symx, seval, c23, q0.lay, pol0, pol1, pol2, pol5, pol6, hv0, hv1, hv2, hv5, hv6, hl1, hl2, hl5, hl6, Bool.not_true]
  obtain ⟨I3, hI3⟩ : ∃ I : Nat → Env → Heap → Prop, I = (fun n e h' => ∃ (i : Nat) (h1 : Heap), h' = h1.lay [] h1.low ∧ Ext h h1 ∧ (n = d.rules.length - i ∧ i ≤ d.rules.length ∧ (∀ r ∈ d.rules.take i, r.body.length ≤ 9) ∧ Holds h1 A0 (.row (zar p0 p1 p2 p5 p6 q b) 55 false)) ∧ ∃ J : Nat → Value, e = (J 0 :: .pointer (some ⟨A0, 0, none⟩) :: jr J 2 3 (.int .i64 i :: jr J 6 129 ([])))) := ⟨_, rfl⟩
  refine zaJ I3 _ (by rw [hI3]; exact ⟨0, _, rfl, z, ⟨rfl, by omega, by simp, q0⟩, junk (by kernel_rfl)⟩) ?_
  intro n e h' hin
  rw [hI3] at hin
  obtain ⟨i, h1', rfl, z, hinv, J, rfl⟩ := hin
  clear q0
  obtain ⟨rfl, hi, hallr, q0⟩ := hinv
  have hw : IntKind.i64.wrap ((i : Int) + 1) = ((i + 1 : Nat) : Int) := by rw [zai (by omega) (by omega)]; omega
  simp -implicitDefEqProofs only [syms, symx, seval, c23, q0.lay, pol0, pol1, pol2, pol5, pol6, hv0, hv1, hv2, hv5, hv6, hl1, hl2, hl5, hl6, Bool.not_true]
  refine zau (fun hlt => ?_) (fun hlt => ?_)
  · obtain ⟨r, hr, hr'⟩ := zby (l := d.rules) (i := i) (by omega)
    repeat' (first | simp -implicitDefEqProofs only [syms, symx, seval, c23, q0.lay, pol0, pol1, pol2, pol5, pol6, hv0, hv1, hv2, hv5, hv6, hl1, hl2, hl5, hl6, Bool.not_true] | with_reducible_and_instances refine ztH (hd.s5.mono z.inc) ds52 zxg (by omega) hr (fun p b hb hp => ?_) | with_reducible_and_instances refine fdc0 hp zlw (fun q hq => ?_) | with_reducible_and_instances refine lda hq ag26 sz26 ?_)
    refine zk1 r.head _ _ (fun hlx h' x => ?_) (fun hlx h' x => ?_)
    rotate_left
    · ((skip); replace z := z.overW x (by (try simp only [lsz]); omega); (try replace q0 := q0.over x); rw [zaa h'])
      repeat' (first | simp -implicitDefEqProofs only [syms, symx, seval, c23, Bool.not_false] | ((with_reducible_and_instances apply zal); (· rfl)))
      exact h2k _ (z.upW _ _ (by omega))
    ((skip); replace z := z.overW x (by (try simp only [lsz]); omega); (try replace q0 := q0.over x); rw [zaa h'])
    repeat' (first | simp -implicitDefEqProofs only [syms, symx, seval, c23, q0.lay, pol0, pol1, pol2, pol5, pol6, hv0, hv1, hv2, hv5, hv6, hl1, hl2, hl5, hl6, Bool.not_true] | with_reducible_and_instances refine ztH (hd.s5.mono z.inc) ds52 zxg (by omega) hr (fun p b hb hp => ?_) | with_reducible_and_instances refine fdc1 hp zkT (fun q hq => ?_) | with_reducible_and_instances refine zbn hq ag27 ?_ | ((with_reducible_and_instances apply zal); (· rfl)))
    refine zmM r.body _ 9 _ (Sl.mono (by assumption) (Inc.lay _ _ _)) _ (fun hb9 _ h' x => ?_) (fun h' x => ?_)
    rotate_left
    · ((skip); replace z := z.overW x (by (try simp only [lsz]); omega); (try replace q0 := q0.over x); rw [zaa h'])
      repeat' (first | simp -implicitDefEqProofs only [syms, symx, seval, c23, Bool.not_false] | ((with_reducible_and_instances apply zal); (· rfl)))
      exact h2k _ (z.upW _ _ (by omega))
    ((skip); replace z := z.overW x (by (try simp only [lsz]); omega); (try replace q0 := q0.over x); rw [zaa h'])
    repeat' (first | simp -implicitDefEqProofs only [syms, symx, seval, c23, Bool.not_true] | ((with_reducible_and_instances apply zal); (· rfl)))
    rw [hw]
    (rw [hI3]; with_reducible refine zah (m := _) ?_ ⟨i + 1, _, rfl, z, ⟨rfl, by omega, zbK (i := i) (P := fun r : ClauseD => r.body.length ≤ 9) hr' hallr (by omega), q0⟩, junk (by kernel_rfl)⟩; omega)
  rw [List.take_of_length_le (by omega)] at hallr
  clear hi hlt hw
  simp -implicitDefEqProofs only [syms, symx, seval, c23, q0.lay, pol0, pol1, pol2, pol5, pol6, hv0, hv1, hv2, hv5, hv6, hl1, hl2, hl5, hl6, Bool.not_true]
  obtain ⟨I4, hI4⟩ : ∃ I : Nat → Env → Heap → Prop, I = (fun n e h' => ∃ (i : Nat) (h1 : Heap), h' = h1.lay [] h1.low ∧ Ext h h1 ∧ (n = d.grants.length - i ∧ i ≤ d.grants.length ∧ (∀ g ∈ d.grants.take i, g.body.length ≤ 9) ∧ Holds h1 A0 (.row (zar p0 p1 p2 p5 p6 q b) 55 false)) ∧ ∃ J : Nat → Value, e = (J 0 :: .pointer (some ⟨A0, 0, none⟩) :: jr J 2 4 (.int .i64 i :: jr J 7 128 ([])))) := ⟨_, rfl⟩
  refine zaJ I4 _ (by rw [hI4]; exact ⟨0, _, rfl, z, ⟨rfl, by omega, by simp, q0⟩, junk (by kernel_rfl)⟩) ?_
  intro n e h' hin
  rw [hI4] at hin
  obtain ⟨i, h1', rfl, z, hinv, J, rfl⟩ := hin
  clear q0
  obtain ⟨rfl, hi, hallg, q0⟩ := hinv
  have hw : IntKind.i64.wrap ((i : Int) + 1) = ((i + 1 : Nat) : Int) := by rw [zai (by omega) (by omega)]; omega
  simp -implicitDefEqProofs only [syms, symx, seval, c23, q0.lay, pol0, pol1, pol2, pol5, pol6, hv0, hv1, hv2, hv5, hv6, hl1, hl2, hl5, hl6, Bool.not_true]
  refine zau (fun hlt => ?_) (fun hlt => ?_)
  rotate_left
  · rw [List.take_of_length_le (by omega)] at hallg
    repeat' ( simp -implicitDefEqProofs only [syms, symx, seval, c23])
    exact h1k (by omega) e1 e2 hall e5 hallr e6 hallg _ (z.upW _ _ (by omega))
  obtain ⟨r, hr, hr'⟩ := zby (l := d.grants) (i := i) (by omega)
  repeat' (first | simp -implicitDefEqProofs only [syms, symx, seval, c23, q0.lay, pol0, pol1, pol2, pol5, pol6, hv0, hv1, hv2, hv5, hv6, hl1, hl2, hl5, hl6, Bool.not_true] | ((with_reducible  apply zau ) <;> intro _) | with_reducible_and_instances refine zsw (hd.s6.mono z.inc) ds53 zxs (by omega) hr (fun p b hb hp => ?_) | with_reducible_and_instances refine fdG0 hp zk7 (fun q hq => ?_) | with_reducible_and_instances refine zbn hq ag9 ?_ | with_reducible_and_instances refine fdG1 hp zkB (fun q hq => ?_) | with_reducible_and_instances refine lda hq ag26 sz26 ?_)
  · exact h2k _ (z.upW _ _ (by omega))
  refine zk1 r.head _ _ (fun hlx h' x => ?_) (fun hlx h' x => ?_)
  rotate_left
  · ((skip); replace z := z.overW x (by (try simp only [lsz]); omega); (try replace q0 := q0.over x); rw [zaa h'])
    repeat' (first | simp -implicitDefEqProofs only [syms, symx, seval, c23, Bool.not_false] | ((with_reducible_and_instances apply zal); (· rfl)))
    exact h2k _ (z.upW _ _ (by omega))
  ((skip); replace z := z.overW x (by (try simp only [lsz]); omega); (try replace q0 := q0.over x); rw [zaa h'])
  repeat' (first | simp -implicitDefEqProofs only [syms, symx, seval, c23, q0.lay, pol0, pol1, pol2, pol5, pol6, hv0, hv1, hv2, hv5, hv6, hl1, hl2, hl5, hl6, Bool.not_true] | with_reducible_and_instances refine zsw (hd.s6.mono z.inc) ds53 zxs (by omega) hr (fun p b hb hp => ?_) | with_reducible_and_instances refine fdG2 hp zkz (fun q hq => ?_) | with_reducible_and_instances refine zbn hq ag27 ?_ | ((with_reducible_and_instances apply zal); (· rfl)))
  refine zmM r.body _ 9 _ (Sl.mono (by assumption) (Inc.lay _ _ _)) _ (fun hb9 _ h' x => ?_) (fun h' x => ?_)
  rotate_left
  · ((skip); replace z := z.overW x (by (try simp only [lsz]); omega); (try replace q0 := q0.over x); rw [zaa h'])
    repeat' (first | simp -implicitDefEqProofs only [syms, symx, seval, c23, Bool.not_false] | ((with_reducible_and_instances apply zal); (· rfl)))
    exact h2k _ (z.upW _ _ (by omega))
  ((skip); replace z := z.overW x (by (try simp only [lsz]); omega); (try replace q0 := q0.over x); rw [zaa h'])
  repeat' (first | simp -implicitDefEqProofs only [syms, symx, seval, c23, Bool.not_true] | ((with_reducible_and_instances apply zal); (· rfl)))
  rw [hw]
  (rw [hI4]; with_reducible refine zah (m := _) ?_ ⟨i + 1, _, rfl, z, ⟨rfl, by omega, zbK (i := i) (P := fun g : GrantD => g.body.length ≤ 9) hr' hallg (by omega), q0⟩, junk (by kernel_rfl)⟩; omega)
theorem zjs (d : PolicyD) (l : List SentD) (v : Value) (p0 p1 p2 p5 p6 : Value) (q b : Int) (h : Heap) (hd : PolH h p0 p1 p2 p5 p6 d) (hl : Sl Rep.sent h v l) (K : Value → Heap → Prop)
    (h1k : d.principals.length ≤ 70 → d.preds.length ≤ 70 → d.clears.length ≤ 70 → (∀ c ∈ d.clears, c.reads.length ≤ 40) → d.rules.length ≤ 70 → (∀ r ∈ d.rules, r.body.length ≤ 9) → d.grants.length ≤ 70 → (∀ g ∈ d.grants, g.body.length ≤ 9) → l.length ≤ 30 → (∀ s ∈ l, s.payload.size ≤ 600) → ∀ h', Ext h h' → K (.bool true) h') (h2k : ∀ h', Ext h h' → K (.bool false) h') : Ok Tryz.prog tab ov 29 [zb1 p0 p1 p2 p5 p6 q b, v] h K := by
  rw [zaa h]
  have z := Ext.refl h
  have hva : ∀ (s : ByteArray) (h : Heap) (K : Value → Heap → Prop), valE (some (.string s)) h K = K (.string s) h := fun _ _ _ => rfl
  have hvv := zbg v
  have hlv := fun (hh : Heap) => hl.lenA ds69 hh
  refine Ok.into rfl zve (zaD N29) rfl (m := 34) rfl ?_
  repeat' ( simp -implicitDefEqProofs only [syms, symx, seval, c29, zav, ↓za2, zaZ, zaH])
  refine zii d _ _ _ _ _ _ _ _ (hd.lay _ _) _ (fun b0 b1 b2 b3 b4 b5 b6 b7 h' x => ?_) (fun h' x => ?_)
  rotate_left
  · ((skip); replace z := z.overW x (by (try simp only [lsz]); omega); rw [zaa h'])
    repeat' (first | simp -implicitDefEqProofs only [syms, symx, seval, c29, Bool.not_false] | ((with_reducible_and_instances apply zal); (· rfl)))
    exact h2k _ (z.upW _ _ (by omega))
  ((skip); replace z := z.overW x (by (try simp only [lsz]); omega); rw [zaa h'])
  simp -implicitDefEqProofs only [syms, symx, seval, c29, Bool.not_true, hvv, hlv]
  (with_reducible_and_instances apply zal); (· rfl)
  simp -implicitDefEqProofs only [syms, symx, seval, c29, Bool.not_true, hvv, hlv]
  refine zau (fun hgt => ?_) (fun hgt => ?_)
  · simp -implicitDefEqProofs only [syms, symx, seval, c29]
    exact h2k _ (z.upW _ _ (by omega))
  simp -implicitDefEqProofs only [syms, symx, seval, c29]
  obtain ⟨I1, hI1⟩ : ∃ I : Nat → Env → Heap → Prop, I = (fun n e h' => ∃ (i : Nat) (h1 : Heap), h' = h1.lay [] h1.low ∧ Ext h h1 ∧ (n = l.length - i ∧ i ≤ l.length ∧ (∀ s ∈ l.take i, s.payload.size ≤ 600)) ∧ ∃ J : Nat → Value, e = (J 0 :: v :: jr J 2 3 (.int .i64 i :: jr J 6 30 ([])))) := ⟨_, rfl⟩
  refine zaJ I1 _ (by rw [hI1]; exact ⟨0, _, rfl, z, ⟨rfl, by omega, by simp⟩, junk (by kernel_rfl)⟩) ?_
  intro n e h' hin
  rw [hI1] at hin
  obtain ⟨i, h1', rfl, z, hinv, J, rfl⟩ := hin
  obtain ⟨rfl, hi, hall⟩ := hinv
  have hwi : IntKind.i64.wrap ((i : Int) + 1) = ((i + 1 : Nat) : Int) := by rw [zai (by omega) (by omega)]; omega
  simp -implicitDefEqProofs only [syms, symx, seval, c29, hvv, hlv]
  refine zau (fun hlt => ?_) (fun hlt => ?_)
  · obtain ⟨r, hr, hr'⟩ := zby (l := l) (i := i) (by omega)
    simp -implicitDefEqProofs only [syms, symx, seval, c29, hvv]
    repeat' ((first | ((with_reducible  apply zau ) <;> intro _) | with_reducible_and_instances refine zg4 (hl.mono z.inc) ds69 sz62 (by omega) hr (fun p hp => ?_) | with_reducible_and_instances refine fdP0 hp zhy (fun qq hq => ?_) | with_reducible_and_instances refine fdP1 hp zi2 (fun qq hq => ?_) | with_reducible_and_instances refine zbn hq ag9 ?_) <;> simp -implicitDefEqProofs only [syms, symx, seval, c29, hvv, hva])
    all_goals first
      | exact h2k _ (z.upW _ _ (by omega))
      | (rw [hwi]
         (rw [hI1]; with_reducible refine zah (m := _) ?_ ⟨i + 1, _, rfl, z, ⟨rfl, by omega, zbK (i := i) (P := fun s : SentD => s.payload.size ≤ 600) hr' hall (by omega)⟩, junk (by kernel_rfl)⟩; omega))
  · rw [List.take_of_length_le (by omega)] at hall
    repeat' ( simp -implicitDefEqProofs only [syms, symx, seval, c29])
    exact h1k b0 b1 b2 b3 b4 b5 b6 b7 (by omega) hall _ (z.upW _ _ (by omega))
def bare (d : PolicyD) : PolicyD := { d with clears := [] }
theorem zpW {T : Tab} {t u : TypeId} {hh : Heap} {n w o : Nat} {cs vs : List Value} {v : Value} (hs : zaN T t = some n) (hv : v.cells.toList = vs) (hl : vs.length = n) (hc : o + n ≤ cs.length) (h1' : vs.all Am.one = true) :
    zbb T t (.pointer (some ⟨hh.size + 0, o, none⟩)) v (hh.lay [.row cs u false] w) = some (hh.lay [.row (splice cs o vs) u false] (min w (hh.size + 0))) := by
  have hg : (hh.lay [.row cs u false] w).get (hh.size + 0) = some (.row cs u false) := by rw [zaW]; rfl
  have hsz : v.cells.size = n := by rw [← hl, ← hv]; simp
  unfold zbb
  simp only [hs, Option.bind_some]
  rw [if_pos hsz, hv]
  unfold zbQ
  rw [hg]
  simp only
  rw [if_pos (by simp only [Bool.and_eq_true, decide_eq_true_eq]; exact ⟨by omega, h1'⟩), zbc _ _ _ _ _ (by simp)]
  rfl
theorem zp9 (w0 w1 w2 w5 w6 : Value) (q b : Int) (v : Value) : splice (zar w0 w1 w2 w5 w6 q b) 2 [v] = zar w0 w1 v w5 w6 q b := rfl
theorem zeX (d : PolicyD) (who : ByteArray) (s : SentD) : zaK (bare d) who s = decide (s.sender = who) := by
  by_cases h : s.sender = who
  · rw [zdJ h, decide_eq_true h]
  · rw [decide_eq_false h]
    cases e : reqO s.payload with
    | none => exact zhe h e
    | some x =>
      obtain ⟨k, a⟩ := x
      rw [ze1 h e]
      have : zdn (bare d) who s.sender = false := by
        unfold zdn bare zcN
        simp [hasB]
        intro _
        exact fun g => h g.symm
      rw [this, Bool.and_false]
theorem zji (s : ByteArray) (hs : s.size ≤ 100000) (h : Heap) (K : Value → Heap → Prop)
    (hk : ∀ (k : Int) (a : AtomD) (e : Int) h', Ext h h' → ((e = 0 ∧ ∃ m : Nat, k = m ∧ reqO s = some (m, a)) ∨ (e ≠ 0 ∧ reqO s = none)) → K (.tuple #[zcT k a, .int .i64 e]) h') : Ok Tryz.prog tab ov 28 [.string s] h K :=
  zi0 s hs h K (fun k a hr h' x => hk _ _ _ _ x (.inl ⟨rfl, k, rfl, hr⟩)) (fun hr h' c hc x => hk _ _ _ _ x (.inr ⟨hc, hr⟩))
theorem zoq (k : Int) (a : AtomD) : (zaO k a)[0]? = some (.int .i64 k) := rfl
theorem zg9 (d : PolicyD) (who other : ByteArray) (l : List SentD) (v lv : Value) (h : Heap) (hsp : SpaceAt 1 h) (hx : PolV h v d) (hl : Sl Rep.sent h lv l) (K : Value → Heap → Prop)
    (hk : ∀ h', Ext h h' → K (.bool true) h') : Ok Tryz.prog tab ov 6 [v, .string who, .string other, lv] h K := by
  obtain ⟨p0, p1, p2, p5, p6, q, b, rfl, hd⟩ := hx
  have hone := hd.one q b
  rw [zaa h]
  have z := Ext.refl h
  have hva : ∀ (s : ByteArray) (h : Heap) (K : Value → Heap → Prop), valE (some (.string s)) h K = K (.string s) h := fun _ _ _ => rfl
  have hvl := zbg lv
  have hll := fun (hh : Heap) => hl.lenA ds69 hh
  refine Ok.into rfl zwS (zaD N6) rfl (m := 160) rfl ?_
  simp -implicitDefEqProofs only [syms, symx, seval, c6, zav, hva]
  refine Ok.over (g := zrf 1) rfl (zuN (hsp.lay _ _)) ?_
  repeat' (first | simp -implicitDefEqProofs only [syms, symx, seval, c6, Bool.not_true, zav, ↓za2, zaZ, zaH, hvl] | ((with_reducible_and_instances apply zal); (· rfl)))
  refine zjs d l _ _ _ _ _ _ _ _ _ (hd.lay _ _) (hl.lay _ _) _ (fun b0 b1 b2 b3 b4 b5 b6 b7 b8 b9 h' x => ?_) (fun h' x => ?_)
  rotate_left
  · (( skip); replace z := z.overW x (by (try simp only [lsz]); omega); rw [zaa h'])
    repeat' (first | simp -implicitDefEqProofs only [syms, symx, seval, c6, Bool.not_false] | ((with_reducible_and_instances apply zal); (· rfl)))
    exact hk _ (z.upW _ _ (by omega))
  have qP := Holds.top (i := 0) x rfl
  (( skip); replace z := z.overW x (by (try simp only [lsz]); omega); rw [zaa h'])
  obtain ⟨P0, hP0⟩ : ∃ P0, P0 = h.size + 0 := ⟨_, rfl⟩
  rw [← hP0] at qP
  rw [← hP0]
  repeat' (first | simp -implicitDefEqProofs only [syms, symx, seval, c6, Bool.not_true, hva, qP.lay, zav, ↓za2, zaZ, zaH] | ((with_reducible  apply zau ) <;> intro _) | ((with_reducible_and_instances apply zal); (· rfl)))
  all_goals try exact hk _ (z.upW _ _ (by omega))
  have hps : d.principals.length ≤ 1000 := by omega
  have hcl : d.clears.length ≤ 1000 := by omega
  refine zl8 d _ _ _ _ _ _ _ _ ((hd.mono z.inc).lay _ _) b0 b1 b2 b3 b4 b5 b6 b7 _ (fun h' w0 w1 w2 w5 w6 x s0 hone2 => ?_)
  (( skip); replace z := z.overW x (by (try simp only [lsz]); omega); (try replace qP := qP.over x); rw [zaa h'])
  simp -implicitDefEqProofs only [syms, symx, seval, c6, zav]
  rw [zmP (n := 7) (vs := zar w0 w1 w2 w5 w6 q b) (by kernel_rfl) rfl rfl rfl hone2]
  simp -implicitDefEqProofs only [syms, symx, seval, c6]
  rw [zpW (n := 1) (vs := [.slice none 0 0]) (by kernel_rfl) rfl rfl (by rw [zkw]; decide) rfl, zp9]
  simp -implicitDefEqProofs only [syms, symx, seval, c6]
  obtain ⟨Q0, hQ0⟩ : ∃ Q0, Q0 = h'.size + 0 := ⟨_, rfl⟩
  refine zih (fun h' x hq => ?_)
  have qQ := hq 0 _ rfl
  clear hq
  (replace z := z.overW x (by (try simp only [lsz]); omega); (try replace qP := qP.over x); (try replace s0 := s0.over x); rw [zaa h'])
  rw [← hQ0] at qQ
  rw [← hQ0]
  have hone3 : (zar w0 w1 (.slice none 0 0) w5 w6 q b).all Am.one = true := by
    simp only [zar, List.all_cons, List.all_nil, Bool.and_true, Bool.and_eq_true] at hone2 ⊢
    exact ⟨hone2.1, hone2.2.1, rfl, hone2.2.2.2⟩
  have hbd : ∀ c ∈ (bare d).clears, c.reads.length ≤ 40 := fun c hc => nomatch hc
  with_reducible first | refine zcL (by simp only [c6]) (z.upW _ _ (by omega)) ?_
  simp -implicitDefEqProofs only [syms, symx, seval, c6, qP.lay, qQ.lay, hva, hvl, zav, ↓za2, zaZ, zaH]
  refine ziO d who l _ _ _ _ _ _ _ _ _ ((hsp.ext z).lay _ _) hone ((hd.mono z.inc).lay _ _).k hps hcl b3 ((hl.mono z.inc).lay _ _) (by omega) (fun s hs => Nat.le_trans (b9 s hs) (by decide)) _ (fun h' wk x sk => ?_)
  (( ((with_reducible refine zaR ?_ ?_ ?_); (· exact (by (try simp only [lsz]); have := z.size; omega)); (·  exact x )) ); replace z := z.overW x (by (try simp only [lsz]); omega); (try replace qP := qP.over x); (try replace s0 := s0.over x); (try replace qQ := qQ.over x); rw [zaa h'])
  have hvk := zbg wk
  simp -implicitDefEqProofs only [syms, symx, seval, c6, qP.lay, qQ.lay, hva, hvl, zav, ↓za2, zaZ, zaH]
  refine ziO (bare d) who l _ _ _ _ _ _ _ _ _ ((hsp.ext z).lay _ _) hone3 ⟨s0.lay _ _, Sl.nil⟩ hps (Nat.zero_le _) hbd ((hl.mono z.inc).lay _ _) (by omega) (fun s hs => Nat.le_trans (b9 s hs) (by decide)) _ (fun h' wo x so => ?_)
  (( ((with_reducible refine zaR ?_ ?_ ?_); (· exact (by (try simp only [lsz]); have := z.size; omega)); (·  exact x )) ); replace z := z.overW x (by (try simp only [lsz]); omega); (try replace qP := qP.over x); (try replace qQ := qQ.over x); (try replace s0 := s0.over x); (try replace sk := sk.over x); rw [zaa h'])
  have hvo := zbg wo
  simp -implicitDefEqProofs only [syms, symx, seval, c6, hvk, hvo]
  ((with_reducible refine ⟨z.grw.lay _ _, ?_⟩); (intro _ h' zz x _); (try simp only [zaw, List.append_nil] at x); (try replace qP := qP.over x); (try replace qQ := qQ.over x); (try replace s0 := s0.over x); (try replace sk := sk.over x); (try replace so := so.over x); (replace z := zz); (clear zz); rw [zaa h'])
  simp -implicitDefEqProofs only [syms, symx, seval, c6]
  obtain ⟨I1, hI1⟩ : ∃ I : Nat → Env → Heap → Prop, I = (fun n e h' => ∃ (i : Nat) (h1 : Heap), h' = h1.lay [] h1.low ∧ Ext h h1 ∧ (n = (l.filter (zaK (bare d) who)).length - i ∧ i ≤ (l.filter (zaK (bare d) who)).length ∧ Sl Rep.str h1 w0 d.principals ∧ Sl Rep.sent h1 wk (l.filter (zaK d who)) ∧ Sl Rep.sent h1 wo (l.filter (zaK (bare d) who)) ∧ Holds h1 P0 (.row (zar p0 p1 p2 p5 p6 q b) 55 false) ∧ Holds h1 Q0 (.row (zar w0 w1 (.slice none 0 0) w5 w6 q b) 55 false)) ∧ ∃ J : Nat → Value, e = (J 0 :: .string who :: .string other :: lv :: .pointer (some ⟨P0, 0, none⟩) :: jr J 5 4 (.pointer (some ⟨Q0, 0, none⟩) :: wk :: wo :: .int .i64 i :: jr J 13 151 ([])))) := ⟨_, rfl⟩
  refine zaJ I1 _ (by rw [hI1]; exact ⟨0, _, rfl, z, ⟨rfl, by omega, s0, sk, so, qP, qQ⟩, junk (by kernel_rfl)⟩) ?_
  intro n e h' hin
  rw [hI1] at hin
  obtain ⟨i, h1', rfl, z, hinv, J, rfl⟩ := hin
  clear s0 sk so qP qQ
  obtain ⟨rfl, hi, s0, sk, so, qP, qQ⟩ := hinv
  have hfl : (l.filter (zaK (bare d) who)).length ≤ l.length := List.length_filter_le _ _
  have hfk : (l.filter (zaK d who)).length ≤ l.length := List.length_filter_le _ _
  have hwi : IntKind.i64.wrap ((i : Int) + 1) = ((i + 1 : Nat) : Int) := by rw [zai (by omega) (by omega)]; omega
  have hlo := fun (hh : Heap) => so.lenA ds69 hh
  simp -implicitDefEqProofs only [syms, symx, seval, c6, hvo, hlo]
  refine zau (fun hlt => ?_) (fun hlt => ?_)
  · obtain ⟨r, hr, hr'⟩ := zby (l := l.filter (zaK (bare d) who)) (i := i) (by omega)
    have hrw : r.sender = who := by
      have := (List.mem_filter.1 (List.mem_of_getElem? hr')).2
      rw [zeX] at this
      exact of_decide_eq_true this
    simp -implicitDefEqProofs only [syms, symx, seval, c6, hvo]
    repeat' ((first | ((with_reducible  apply zau ) <;> intro _) | with_reducible_and_instances refine zg4 so ds69 sz62 (by omega) hr (fun p hp => ?_) | with_reducible_and_instances refine fdP0 hp zhy (fun qq hq => ?_) | with_reducible_and_instances refine zbn hq ag9 ?_) <;> simp -implicitDefEqProofs only [syms, symx, seval, c6, hvo, hva])
    · exact absurd hrw (by assumption)
    rw [hwi]
    (rw [hI1]; with_reducible refine zah (m := _) ?_ ⟨i + 1, _, rfl, z, ⟨rfl, by omega, s0, sk, so, qP, qQ⟩, junk (by kernel_rfl)⟩; omega)
  clear hi hlt hwi
  simp -implicitDefEqProofs only [syms, symx, seval, c6]
  obtain ⟨I2, hI2⟩ : ∃ I : Nat → Env → Heap → Prop, I = (fun n e h' => ∃ (i : Nat) (c : Nat) (h1 : Heap), h' = h1.lay [] h1.low ∧ Ext h h1 ∧ (n = l.length - i ∧ i ≤ l.length ∧ c = ((l.take i).filter (zaK (bare d) who)).length ∧ Sl Rep.str h1 w0 d.principals ∧ Sl Rep.sent h1 wk (l.filter (zaK d who)) ∧ Sl Rep.sent h1 wo (l.filter (zaK (bare d) who)) ∧ Holds h1 P0 (.row (zar p0 p1 p2 p5 p6 q b) 55 false) ∧ Holds h1 Q0 (.row (zar w0 w1 (.slice none 0 0) w5 w6 q b) 55 false)) ∧ ∃ J : Nat → Value, e = (J 0 :: .string who :: .string other :: lv :: .pointer (some ⟨P0, 0, none⟩) :: jr J 5 4 (.pointer (some ⟨Q0, 0, none⟩) :: wk :: wo :: J 12 :: .int .i64 c :: .int .i64 i :: jr J 15 149 ([])))) := ⟨_, rfl⟩
  refine zaJ I2 _ (by rw [hI2]; exact ⟨0, 0, _, rfl, z, ⟨rfl, by omega, rfl, s0, sk, so, qP, qQ⟩, junk (by kernel_rfl)⟩) ?_
  intro n e h' hin
  rw [hI2] at hin
  obtain ⟨i, c, h1', rfl, z, hinv, J, rfl⟩ := hin
  clear s0 sk so qP qQ hlo
  obtain ⟨rfl, hi, hc, s0, sk, so, qP, qQ⟩ := hinv
  have hcn : ((l.take i).filter (zaK (bare d) who)).length ≤ l.length := Nat.le_trans (List.length_filter_le _ _) (by rw [List.length_take]; omega)
  have hwi : IntKind.i64.wrap ((i : Int) + 1) = ((i + 1 : Nat) : Int) := by rw [zai (by omega) (by omega)]; omega
  have hwc : IntKind.i64.wrap ((c : Int) + 1) = ((c + 1 : Nat) : Int) := by rw [zai (by omega) (by omega)]; omega
  have hlo := fun (hh : Heap) => so.lenA ds69 hh
  have hlk := fun (hh : Heap) => sk.lenA ds69 hh
  simp -implicitDefEqProofs only [syms, symx, seval, c6, hvl, hll]
  refine zau (fun hlt => ?_) (fun hlt => ?_)
  · obtain ⟨r, hr, hr'⟩ := zby (l := l) (i := i) (by omega)
    have hrm := List.mem_of_getElem? hr'
    have hrp : r.payload.size ≤ 100000 := Nat.le_trans (b9 r hrm) (by decide)
    have htk : l.take (i + 1) = l.take i ++ [r] := by rw [List.take_add_one, hr']; rfl
    simp -implicitDefEqProofs only [syms, symx, seval, c6, hvl]
    repeat' ((first | ((with_reducible  apply zau ) <;> intro _) | with_reducible_and_instances refine zg4 (hl.mono z.inc) ds69 sz62 (by omega) hr (fun p hp => ?_) | with_reducible_and_instances refine fdP0 hp zhy (fun qq hq => ?_) | with_reducible_and_instances refine zbn hq ag9 ?_) <;> simp -implicitDefEqProofs only [syms, symx, seval, c6, hvl, hva])
    · have hrw : r.sender = who := by assumption
      have hkr := zeX d who r
      rw [decide_eq_true hrw] at hkr
      have hc1 : c + 1 = ((l.take (i + 1)).filter (zaK (bare d) who)).length := by rw [htk, List.filter_append, List.length_append, ← hc]; simp [hkr]
      rw [hwc]
      with_reducible first | refine zcL (by simp only [c6]) (z.upW _ _ (by omega)) ?_
      simp -implicitDefEqProofs only [syms, symx, seval, c6, qP.lay, qQ.lay, hva, hvl, zav, ↓za2, zaZ, zaH]
      repeat' ((first | with_reducible_and_instances refine zfT (hl.mono z.inc) ds69 sz62 (by omega) hr (fun p hp => ?_) | with_reducible_and_instances refine ldS hp ag62 sz62 ?_) <;> simp -implicitDefEqProofs only [syms, symx, seval, c6, qP.lay, qQ.lay, hva, hvl, zav, ↓za2, zaZ, zaH])
      refine zeE (bare d) who r _ _ _ _ _ _ _ _ ((hsp.ext z).lay _ _) hone3 ⟨s0.lay _ _, Sl.nil⟩ hps (Nat.zero_le _) hbd hrp _ (fun h' x => ?_)
      rw [hkr]
      (( ((with_reducible refine zaR ?_ ?_ ?_); (· exact (by (try simp only [lsz]); have := z.size; omega)); (·  exact x )) ); replace z := z.overW x (by (try simp only [lsz]); omega); (try replace qP := qP.over x); (try replace qQ := qQ.over x); (try replace s0 := s0.over x); (try replace sk := sk.over x); (try replace so := so.over x); rw [zaa h'])
      clear hp
      repeat' (first | simp -implicitDefEqProofs only [syms, symx, seval, c6, qP.lay, qQ.lay, hva, hvl, zav, ↓za2, zaZ, zaH] | with_reducible_and_instances refine zfT (hl.mono z.inc) ds69 sz62 (by omega) hr (fun p hp => ?_) | with_reducible_and_instances refine ldS hp ag62 sz62 ?_)
      refine zeE d who r _ _ _ _ _ _ _ _ ((hsp.ext z).lay _ _) hone ((hd.mono z.inc).lay _ _).k hps hcl b3 hrp _ (fun h' x => ?_)
      rw [zdJ hrw]
      (( ((with_reducible refine zaR ?_ ?_ ?_); (· exact (by (try simp only [lsz]); have := z.size; omega)); (·  exact x )) ); replace z := z.overW x (by (try simp only [lsz]); omega); (try replace qP := qP.over x); (try replace qQ := qQ.over x); (try replace s0 := s0.over x); (try replace sk := sk.over x); (try replace so := so.over x); rw [zaa h'])
      clear hp
      simp -implicitDefEqProofs only [syms, symx, seval, c6]
      (with_reducible_and_instances apply zal); (· rfl)
      simp -implicitDefEqProofs only [syms, symx, seval, c6, Bool.not_true]
      ((with_reducible refine ⟨z.grw.lay _ _, ?_⟩); (intro _ h' zz x _); (try simp only [zaw, List.append_nil] at x); (try replace qP := qP.over x); (try replace qQ := qQ.over x); (try replace s0 := s0.over x); (try replace sk := sk.over x); (try replace so := so.over x); (replace z := zz); (clear zz); rw [zaa h'])
      simp -implicitDefEqProofs only [syms, symx, seval, c6]
      rw [hwi]
      (rw [hI2]; with_reducible refine zah (m := _) ?_ ⟨i + 1, c + 1, _, rfl, z, ⟨rfl, by omega, hc1, s0, sk, so, qP, qQ⟩, junk (by kernel_rfl)⟩; omega)
    · have hrw : ¬ r.sender = who := by assumption
      have hkr := zeX d who r
      rw [decide_eq_false hrw] at hkr
      have hc1 : c = ((l.take (i + 1)).filter (zaK (bare d) who)).length := by rw [htk, List.filter_append, List.length_append, ← hc]; simp [hkr]
      with_reducible first | refine zcL (by simp only [c6]) (z.upW _ _ (by omega)) ?_
      repeat' (first | simp -implicitDefEqProofs only [syms, symx, seval, c6, qP.lay, qQ.lay, hva, hvl, zav, ↓za2, zaZ, zaH] | with_reducible_and_instances refine zfT (hl.mono z.inc) ds69 sz62 (by omega) hr (fun p hp => ?_) | with_reducible_and_instances refine ldS hp ag62 sz62 ?_)
      refine zeE (bare d) who r _ _ _ _ _ _ _ _ ((hsp.ext z).lay _ _) hone3 ⟨s0.lay _ _, Sl.nil⟩ hps (Nat.zero_le _) hbd hrp _ (fun h' x => ?_)
      rw [hkr]
      (( ((with_reducible refine zaR ?_ ?_ ?_); (· exact (by (try simp only [lsz]); have := z.size; omega)); (·  exact x )) ); replace z := z.overW x (by (try simp only [lsz]); omega); (try replace qP := qP.over x); (try replace qQ := qQ.over x); (try replace s0 := s0.over x); (try replace sk := sk.over x); (try replace so := so.over x); rw [zaa h'])
      simp -implicitDefEqProofs only [syms, symx, seval, c6]
      ((with_reducible refine ⟨z.grw.lay _ _, ?_⟩); (intro _ h' zz x _); (try simp only [zaw, List.append_nil] at x); (try replace qP := qP.over x); (try replace qQ := qQ.over x); (try replace s0 := s0.over x); (try replace sk := sk.over x); (try replace so := so.over x); (replace z := zz); (clear zz); rw [zaa h'])
      simp -implicitDefEqProofs only [syms, symx, seval, c6]
      rw [hwi]
      (rw [hI2]; with_reducible refine zah (m := _) ?_ ⟨i + 1, c, _, rfl, z, ⟨rfl, by omega, hc1, s0, sk, so, qP, qQ⟩, junk (by kernel_rfl)⟩; omega)
  rw [List.take_of_length_le (by omega)] at hc
  clear hi hlt hwi hwc hcn
  subst hc
  simp -implicitDefEqProofs only [syms, symx, seval, c6, hlo, hlk, hvk, hvo]
  refine zgE (fun hne => absurd rfl hne) (fun _ => ?_)
  simp -implicitDefEqProofs only [syms, symx, seval, c6, hlo, hlk, hvk, hvo]
  have hmono : (l.filter (zaK (bare d) who)).length ≤ (l.filter (zaK d who)).length := by
    rw [← List.countP_eq_length_filter, ← List.countP_eq_length_filter]
    refine List.countP_mono_left (fun x _ hx => ?_)
    rw [zeX] at hx
    exact zdJ (of_decide_eq_true hx)
  refine zau (fun hlt => absurd hlt (by omega)) (fun _ => ?_)
  simp -implicitDefEqProofs only [syms, symx, seval, c6, qP.lay, hva, hvl, zav, ↓za2, zaZ, zaH]
  clear hlo s0 so qQ
  refine zo2 d who other _ _ _ _ _ _ _ _ hone ((hd.mono z.inc).lay _ _).k hps hcl b3 _ (fun h' x => ?_)
  (( skip); replace z := z.overW x (by (try simp only [lsz]); omega); (try replace qP := qP.over x); (try replace sk := sk.over x); rw [zaa h'])
  cases hsee : zdn d who other
  · simp -implicitDefEqProofs only [syms, symx, seval, c6]
    (with_reducible_and_instances apply zal); (· rfl)
    simp -implicitDefEqProofs only [syms, symx, seval, c6, Bool.not_false]
    exact hk _ (z.upW _ _ (by omega))
  simp -implicitDefEqProofs only [syms, symx, seval, c6]
  (with_reducible_and_instances apply zal); (· rfl)
  simp -implicitDefEqProofs only [syms, symx, seval, c6, Bool.not_true]
  obtain ⟨I3, hI3⟩ : ∃ I : Nat → Env → Heap → Prop, I = (fun n e h' => ∃ (i : Nat) (h1 : Heap), h' = h1.lay [] h1.low ∧ Ext h h1 ∧ (n = l.length - i ∧ i ≤ l.length ∧ Sl Rep.sent h1 wk (l.filter (zaK d who)) ∧ Holds h1 P0 (.row (zar p0 p1 p2 p5 p6 q b) 55 false)) ∧ ∃ J : Nat → Value, e = (J 0 :: .string who :: .string other :: lv :: .pointer (some ⟨P0, 0, none⟩) :: jr J 5 5 (wk :: jr J 11 4 (.int .i64 i :: jr J 16 148 ([]))))) := ⟨_, rfl⟩
  refine zaJ I3 _ (by rw [hI3]; exact ⟨0, _, rfl, z, ⟨rfl, by omega, sk, qP⟩, junk (by kernel_rfl)⟩) ?_
  intro n e h' hin
  rw [hI3] at hin
  obtain ⟨i, h1', rfl, z, hinv, J, rfl⟩ := hin
  clear sk qP hlk
  obtain ⟨rfl, hi, sk, qP⟩ := hinv
  have hwi : IntKind.i64.wrap ((i : Int) + 1) = ((i + 1 : Nat) : Int) := by rw [zai (by omega) (by omega)]; omega
  simp -implicitDefEqProofs only [syms, symx, seval, c6, hvl, hll]
  refine zau (fun hlt => ?_) (fun hlt => ?_)
  · obtain ⟨r, hr, hr'⟩ := zby (l := l) (i := i) (by omega)
    have hrm := List.mem_of_getElem? hr'
    have hrp : r.payload.size ≤ 100000 := Nat.le_trans (b9 r hrm) (by decide)
    simp -implicitDefEqProofs only [syms, symx, seval, c6, hvl]
    repeat' ((first | with_reducible_and_instances refine zg4 (hl.mono z.inc) ds69 sz62 (by omega) hr (fun p hp => ?_) | with_reducible_and_instances refine fdP1 hp zi2 (fun qq hq => ?_) | with_reducible_and_instances refine zbn hq ag9 ?_) <;> simp -implicitDefEqProofs only [syms, symx, seval, c6, hvl, hva])
    refine zji r.payload hrp _ _ (fun k1 a1 e1 h' x c1 => ?_)
    (( skip); replace z := z.overW x (by (try simp only [lsz]); omega); (try replace qP := qP.over x); (try replace sk := sk.over x); rw [zaa h'])
    clear hp hq
    repeat' (first | simp -implicitDefEqProofs only [syms, symx, seval, c6, zbc, zaE, List.all_cons, List.all_nil, Am.one, Bool.and_true, Bool.true_and, Bool.and_self, List.set_cons_zero, List.set_cons_succ, st4, st3, st9, st23, st26, st29, zdE, st57, zaS, zdu, zdv, zdo, zcr, zdp, List.append_nil, if_true, ↓zbw, zbv, zaI, hvl, hva] | with_reducible_and_instances refine zg4 (hl.mono z.inc) ds69 sz62 (by omega) hr (fun p hp => ?_) | with_reducible_and_instances refine fdP1 hp zi2 (fun qq hq => ?_) | with_reducible_and_instances refine zbn hq ag9 ?_)
    refine zji r.payload hrp _ _ (fun k2 a2 e2 h' x c2 => ?_)
    (( skip); replace z := z.overW x (by (try simp only [lsz]); omega); (try replace qP := qP.over x); (try replace sk := sk.over x); rw [zaa h'])
    clear hp hq
    obtain ⟨R0, hR0⟩ : ∃ R0, R0 = h'.size + 0 := ⟨_, rfl⟩
    simp -implicitDefEqProofs only [syms, symx, seval, c6, zbc, zaE, List.all_cons, List.all_nil, Am.one, Bool.and_true, Bool.true_and, Bool.and_self, List.set_cons_zero, List.set_cons_succ, st4, st3, st9, st23, st26, st29, zdE, st57, zaS, zdu, zdv, zdo, zcr, zdp, List.append_nil, if_true, ↓zbw, zbv, zaI, hvl, hva]
    refine zih (fun h' x hq => ?_)
    have qR := hq 0 _ rfl
    clear hq
    (replace z := z.overW x (by (try simp only [lsz]); omega); (try replace qP := qP.over x); (try replace sk := sk.over x); rw [zaa h'])
    rw [← hR0] at qR
    rw [← hR0]
    with_reducible first | refine zcL (by simp only [c6]) (z.upW _ _ (by omega)) ?_
    simp -implicitDefEqProofs only [syms, symx, seval, c6, qP.lay, qR.lay, hva, hvl, zoq, zav, ↓za2, zaZ, zaH]
    repeat' ((first | ((with_reducible first | apply zau | apply ze4 | apply zgE ) <;> intro _) | with_reducible_and_instances refine zg4 (hl.mono z.inc) ds69 sz62 (by omega) hr (fun p hp => ?_) | with_reducible_and_instances refine fdP0 hp zhy (fun qq hq => ?_) | with_reducible_and_instances refine zbn hq ag9 ?_ | ((with_reducible refine ⟨z.grw.lay _ _, ?_⟩); (intro _ h' zz x _); (try simp only [zaw, List.append_nil] at x); (try replace qP := qP.over x); (try replace sk := sk.over x); (try replace qR := qR.over x); (replace z := zz); (clear zz); rw [zaa h'])) <;> simp -implicitDefEqProofs only [syms, symx, seval, c6, qP.lay, qR.lay, hva, hvl, zoq, zav, ↓za2, zaZ, zaH])
    all_goals first
      | (rw [hwi]
         (rw [hI3]; with_reducible refine zah (m := _) ?_ ⟨i + 1, _, rfl, z, ⟨rfl, by omega, sk, qP⟩, junk (by kernel_rfl)⟩; omega))
      | skip
    have hro : r.sender = other := by assumption
    have he1 : e1 = 0 := by assumption
    have hk3 : ¬ k2 = 3 := by assumption
    have hkp : zaK d who r = true := by
      by_cases hw : r.sender = who
      · exact zdJ hw
      · rcases c2 with ⟨_, m, rfl, hm⟩ | ⟨_, hm⟩
        · rw [ze1 hw hm, hro, hsee, Bool.and_true]
          exact decide_eq_true (by omega)
        · rcases c1 with ⟨_, m1, _, hm1⟩ | ⟨hne, _⟩
          · rw [hm] at hm1; cases hm1
          · exact absurd he1 hne
    refine ldS (x := r) hp ag62 sz62 ?_
    simp -implicitDefEqProofs only [syms, symx, seval, c6, qP.lay, qR.lay, hva, hvl, zoq, zav, ↓za2, zaZ, zaH]
    refine zeE d who r _ _ _ _ _ _ _ _ ((hsp.ext z).lay _ _) hone ((hd.mono z.inc).lay _ _).k hps hcl b3 hrp _ (fun h' x => ?_)
    rw [hkp]
    (( ((with_reducible refine zaR ?_ ?_ ?_); (· exact (by (try simp only [lsz]); have := z.size; omega)); (·  exact x )) ); replace z := z.overW x (by (try simp only [lsz]); omega); (try replace qP := qP.over x); (try replace sk := sk.over x); (try replace qR := qR.over x); rw [zaa h'])
    clear hp hq
    simp -implicitDefEqProofs only [syms, symx, seval, c6]
    (with_reducible_and_instances apply zal); (· rfl)
    simp -implicitDefEqProofs only [syms, symx, seval, c6, Bool.not_true]
    ((with_reducible refine ⟨z.grw.lay _ _, ?_⟩); (intro _ h' zz x _); (try simp only [zaw, List.append_nil] at x); (try replace qP := qP.over x); (try replace sk := sk.over x); (try replace qR := qR.over x); (replace z := zz); (clear zz); rw [zaa h'])
    simp -implicitDefEqProofs only [syms, symx, seval, c6]
    rw [hwi]
    (rw [hI3]; with_reducible refine zah (m := _) ?_ ⟨i + 1, _, rfl, z, ⟨rfl, by omega, sk, qP⟩, junk (by kernel_rfl)⟩; omega)
  clear hi hlt hwi
  simp -implicitDefEqProofs only [syms, symx, seval, c6, qP.lay, hva, hvk, zav, ↓za2, zaZ, zaH]
  refine znC d who (l.filter (zaK d who)) _ _ _ _ _ _ _ _ _ hone ((hd.mono z.inc).lay _ _).k hps hcl b3 (sk.lay _ _) (by omega) (fun s hs => Nat.le_trans (b9 s ((List.mem_filter.1 hs).1)) (by decide)) _ (fun h' wf x sf => ?_)
  (( skip); replace z := z.overW x (by (try simp only [lsz]); omega); (try replace qP := qP.over x); (try replace sk := sk.over x); rw [zaa h'])
  have hvf := zbg wf
  rw [List.filter_filter, show (fun a => zaK d who a && zaK d who a) = zaK d who from funext fun a => Bool.and_self _] at sf
  simp -implicitDefEqProofs only [syms, symx, seval, c6, hvf, hvk]
  refine zl1 _ _ _ _ _ (sf.lay _ _) (sk.lay _ _) (by omega) (by omega) _ (fun h' x => ?_)
  rw [decide_eq_true rfl]
  (( skip); replace z := z.overW x (by (try simp only [lsz]); omega); (try replace qP := qP.over x); (try replace sk := sk.over x); rw [zaa h'])
  simp -implicitDefEqProofs only [syms, symx, seval, c6]
  exact hk _ (z.upW _ _ (by omega))
end Go.Proofs.YtemapihoobmonaaGreatDoor
