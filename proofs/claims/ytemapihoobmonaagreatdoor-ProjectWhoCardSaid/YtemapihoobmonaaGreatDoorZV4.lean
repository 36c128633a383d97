/- Walks: who is a member of a view, by any policy. Written out by fill2.py. No condition. -/
import Derived.Test.YtemapihoobmonaaGreatDoorG43
import Derived.Test.YtemapihoobmonaaGreatDoorG44
import Derived.Test.YtemapihoobmonaaGreatDoorG15
import Derived.Test.YtemapihoobmonaaGreatDoorG34
namespace Go.Proofs.YtemapihoobmonaaGreatDoor
open Go.Am
set_option linter.unusedSimpArgs false
set_option linter.unusedVariables false
set_option maxRecDepth 100000
set_option maxHeartbeats 0
theorem zr2 (l : List ByteArray) (v : Value) (a : ByteArray) (h : Heap) (hl : Sl Rep.str h v l) (hs : l.length ≤ 1000) (K : Value → Heap → Prop)
    (hk : ∀ h', Ext h h' → K (.int .i64 (idxP (fun x => decide (a = x)) l)) h') : Ok Tryz.prog tab ov 140 [v, .string a] h K := by
  rw [zaa h]
  have z := Ext.refl h
  refine Ok.into rfl zmo (zaG N140) rfl (m := 17) rfl ?_
  simp -implicitDefEqProofs only [syms, symx, seval, c140]
  repeat' (( with_reducible_and_instances refine ziz hl ds49 ?_) <;> simp -implicitDefEqProofs only [syms, symx, seval, c140])
  obtain ⟨I1, hI1⟩ : ∃ I : Nat → Env → Heap → Prop, I = (fun n e h' => ∃ (i : Nat) (h1 : Heap), h' = h1.lay [] h1.low ∧ Ext h h1 ∧ (n = l.length - i ∧ i ≤ l.length ∧ (∀ x ∈ l.take i, decide (a = x) = false)) ∧ ∃ J : Nat → Value, e = (v :: .string a :: jr J 2 5 (.int .i64 l.length :: .int .i64 i :: jr J 9 10 ([])))) := ⟨_, rfl⟩
  refine za3 I1 _ (by rw [hI1]; exact ⟨0, _, rfl, z, ⟨rfl, by omega, by simp⟩, junk (by kernel_rfl)⟩) ?_
  intro n e h' hin
  rw [hI1] at hin
  obtain ⟨i, h1', rfl, z, hinv, J, rfl⟩ := hin
  obtain ⟨rfl, hi, hall⟩ := hinv
  have hw : IntKind.i64.wrap ((i : Int) + 1) = ((i + 1 : Nat) : Int) := by rw [zal (by omega) (by omega)]; omega
  simp -implicitDefEqProofs only [syms, symx, seval, c140]
  refine zav (fun hlt => ?_) (fun hlt => ?_)
  rotate_left
  · simp -implicitDefEqProofs only [syms, symx, seval, c140]
    rw [List.take_of_length_le (by omega)] at hall
    have := zfK hall
    rw [this] at hk
    exact hk _ (z.upW _ _ (by omega))
  obtain ⟨r, hr, hr'⟩ := zcT (l := l) (i := i) (by omega)
  repeat' (first | simp -implicitDefEqProofs only [syms, symx, seval, c140] | ((with_reducible  apply zav ) <;> intro _) | with_reducible_and_instances refine zfN (hl.mono z.inc) ds49 sz9 (by omega) hr (fun p hp => ?_) | with_reducible_and_instances refine zcn hp ag9 ?_)
  · have hx : a = r := by assumption
    have := zeg (p := fun x => decide (a = x)) hr' hall (decide_eq_true hx)
    rw [this] at hk
    exact hk _ (z.upW _ _ (by omega))
  · have hx : ¬ a = r := by assumption
    rw [hw]
    (rw [hI1]; with_reducible refine zam (m := _) ?_ ⟨i + 1, _, rfl, z, ⟨rfl, by omega, zc1 (i := i) (P := fun x : ByteArray => decide (a = x) = false) hr' hall (decide_eq_false hx)⟩, junk (by kernel_rfl)⟩; omega)
theorem ztU (l : List ByteArray) (a : ByteArray) : decide (idxP (fun x => decide (a = x)) l ≥ 0) = hasS l a := by
  rw [znC]
  unfold hasS
  congr 1
  funext x
  exact decide_eq_decide.2 ⟨Eq.symm, Eq.symm⟩
theorem zgL (l : List ByteArray) (v : Value) (a : ByteArray) (h : Heap) (hl : Sl Rep.str h v l) (hs : l.length ≤ 1000) (K : Value → Heap → Prop)
    (hk : ∀ h', Ext h h' → K (.bool (hasS l a)) h') : Ok Tryz.prog tab ov 108 [v, .string a] h K := by
  refine Ok.into rfl zlG (zaG N108) rfl (m := 7) rfl ?_
  simp -implicitDefEqProofs only [syms, symx, seval, c108]
  refine zr2 l v a h hl hs _ (fun h' x => ?_)
  simp -implicitDefEqProofs only [syms, symx, seval, c108, ztU]
  refine zvR (fun hh => ?_) (fun hh => ?_)
  all_goals
    simp -implicitDefEqProofs only [syms, symx, seval, c108]
    rw [hh] at hk
    exact hk _ x
theorem zj9 (l : List ByteArray) (who : ByteArray) (p0 p1 p2 p5 p6 : Value) (q b : Int) (h : Heap) (hl : Sl Rep.str h p0 l) (hs : l.length ≤ 1000) (K : Value → Heap → Prop) (hk : ∀ h', Ext h h' → K (.bool (hasS l who)) h') : Ok Tryz.prog tab ov 141 [zea p0 p1 p2 p5 p6 q b, .string who] h K := by
  rw [zaa h]
  have z := Ext.refl h
  have hva := zcg p0
  refine Ok.into rfl zrc (zaG N141) rfl (m := 7) rfl ?_
  repeat' ( simp -implicitDefEqProofs only [syms, symx, seval, c141, za4, pol0, hva])
  refine zgL l _ who _ (hl.lay _ _) hs _ (fun h' x => ?_)
  ((skip); replace z := z.overW x (by (try simp only [lsz]); omega); rw [zaa h'])
  repeat' ( simp -implicitDefEqProofs only [syms, symx, seval, c141])
  exact hk _ (z.upW _ _ (by omega))
theorem ziX (l : List ClearD) (v fv : Value) (pr : ClearD → Bool) (h : Heap) (hl : Sl Rep.clear h v l) (hs : l.length ≤ 1000) (hpf : ∀ (x : ClearD) (b : Value) (hc : Heap) (K : Value → Heap → Prop), Ext h hc → (∀ h', Ext hc h' → K (.bool (pr x)) h') → zk6 Tryz.prog tab ov [.agg ⟨[.string x.who, b]⟩] hc K fv) (K : Value → Heap → Prop)
    (hk : ∀ h', Ext h h' → K (.int .i64 (idxP pr l)) h') : Ok Tryz.prog tab ov 142 [v, fv] h K := by
  rw [zaa h]
  have z := Ext.refl h
  refine Ok.into rfl zrP (zaG N142) rfl (m := 17) rfl ?_
  simp -implicitDefEqProofs only [syms, symx, seval, c142]
  repeat' (( with_reducible_and_instances refine ziz hl ds51 ?_) <;> simp -implicitDefEqProofs only [syms, symx, seval, c142])
  obtain ⟨I1, hI1⟩ : ∃ I : Nat → Env → Heap → Prop, I = (fun n e h' => ∃ (i : Nat) (h1 : Heap), h' = h1.lay [] h1.low ∧ Ext h h1 ∧ (n = l.length - i ∧ i ≤ l.length ∧ ∀ x ∈ l.take i, pr x = false) ∧ ∃ J : Nat → Value, e = (v :: fv :: jr J 2 5 (.int .i64 l.length :: .int .i64 i :: jr J 9 10 ([])))) := ⟨_, rfl⟩
  refine za3 I1 _ (by rw [hI1]; exact ⟨0, _, rfl, z, ⟨rfl, by omega, by simp⟩, junk (by kernel_rfl)⟩) ?_
  intro n e h' hin
  rw [hI1] at hin
  obtain ⟨i, h1', rfl, z, hinv, J, rfl⟩ := hin
  obtain ⟨rfl, hi, hall⟩ := hinv
  have hw : IntKind.i64.wrap ((i : Int) + 1) = ((i + 1 : Nat) : Int) := by rw [zal (by omega) (by omega)]; omega
  repeat' (first | simp -implicitDefEqProofs only [syms, symx, seval, c142] | ((with_reducible  apply zav ) <;> intro _))
  rotate_left
  · rw [List.take_of_length_le (by omega)] at hall
    have := zfK hall
    rw [this] at hk
    exact hk _ (z.upW _ _ (by omega))
  obtain ⟨r, hr, hr'⟩ := zcT (l := l) (i := i) (by assumption)
  repeat' ((first | with_reducible_and_instances refine zhp (hl.mono z.inc) ds51 zjb (by omega) hr (fun p b hb hp => ?_) | with_reducible_and_instances refine ldP hp zv4 zjb ?_) <;> simp -implicitDefEqProofs only [syms, symx, seval, c142])
  refine hpf _ _ _ _ (z.upW _ _ (by omega)) (fun h' x => ?_)
  ((skip); replace z := z.overW x (by (try simp only [lsz]); omega); rw [zaa h'])
  cases hx : pr r
  rotate_left
  · simp -implicitDefEqProofs only [syms, symx, seval, c142]
    have := zeg hr' hall hx
    rw [this] at hk
    exact hk _ (z.upW _ _ (by omega))
  · simp -implicitDefEqProofs only [syms, symx, seval, c142]
    rw [hw]
    (rw [hI1]; with_reducible refine zam (m := _) ?_ ⟨i + 1, _, rfl, z, ⟨rfl, by omega, zc1 (i := i) (P := fun x : ClearD => pr x = false) hr' hall hx⟩, junk (by kernel_rfl)⟩; omega)
theorem zoz (who : ByteArray) (x : ClearD) (b : Value) (A : Nat) (h : Heap) (q0 : Holds h A (.row [.string who] 9 false)) (K : Value → Heap → Prop)
    (hk : ∀ h', Ext h h' → K (.bool (decide (x.who = who))) h') : Ok Tryz.prog tab ov 143 [.agg ⟨[.string x.who, b]⟩, .pointer (some ⟨A, 0, none⟩)] h K := by
  rw [zaa h]
  have z := Ext.refl h
  refine Ok.into rfl zsf (zaG N143) rfl (m := 6) rfl ?_
  simp -implicitDefEqProofs only [syms, symx, seval, c143]
  repeat' ((first | ((with_reducible first | apply zav | apply zf1 | apply zjk | apply zgz | apply zf9) <;> intro _) | with_reducible_and_instances refine zhp (hl.mono z.inc) ds51 zjb (by omega) hr (fun p b hb hp => ?_) | with_reducible_and_instances refine ldP hp zv4 zjb ?_) <;> simp -implicitDefEqProofs only [syms, symx, seval, c143, q0.lay])
  simp -implicitDefEqProofs only [syms, symx, seval, c143, q0.lay]
  refine zav (fun hh => ?_) (fun hh => ?_)
  · simp -implicitDefEqProofs only [syms, symx, seval, c143]
    rw [decide_eq_true hh] at hk
    exact hk _ (z.upW _ _ (by omega))
  · simp -implicitDefEqProofs only [syms, symx, seval, c143]
    rw [decide_eq_false hh] at hk
    exact hk _ (z.upW _ _ (by omega))
theorem styV : zfq tab 49 49 = true := by kernel_rfl
theorem zpr (d : PolicyD) (who : ByteArray) (p0 p1 p2 p5 p6 : Value) (q b : Int) (h : Heap) (hone : (zaM p0 p1 p2 p5 p6 q b).all Am.one = true) (hd : PolK h p0 p1 p2 p5 p6 d) (hps : d.principals.length ≤ 1000) (hcl : d.clears.length ≤ 1000) (hrl : ∀ c ∈ d.clears, c.reads.length ≤ 40) (K : Value → Heap → Prop)
    (hk : ∀ w h', Ext h h' → Sl Rep.str h' w (zhm d who) → K w h') : Ok Tryz.prog tab ov 109 [zea p0 p1 p2 p5 p6 q b, .string who] h K := by
  rw [zaa h]
  have z := Ext.refl h
  have hv2 := zcg p2
  refine Ok.into rfl zq4 (zaG N109) rfl (m := 29) rfl ?_
  repeat' ( simp -implicitDefEqProofs only [syms, symx, seval, c109, za4, ↓zcA, zcv, zbN])
  refine zj9 d.principals who _ _ _ _ _ _ _ _ (hd.s0.lay _ _) hps _ (fun h' x => ?_)
  have q0 := Holds.top (i := 0) x rfl
  have e0 := Holds.top (i := 1) x rfl
  ((skip); replace z := z.overW x (by (try simp only [lsz]); omega); (try replace q0 := q0.over x); (try replace e0 := e0.over x); rw [zaa h'])
  cases hh : hasS d.principals who
  · repeat' (first | simp -implicitDefEqProofs only [syms, symx, seval, c109, Bool.not_false] | ((with_reducible_and_instances apply zaj); (· rfl)))
    refine hk _ _ (z.upW _ _ (by omega)) ?_
    rw [show zhm d who = [] from if_neg (by show ¬ hasS d.principals who = true; rw [hh]; decide)]
    exact .inl ⟨rfl, rfl⟩
  have hvw : zhm d who = zeC (zcW d who) := if_pos hh
  rw [hvw] at hk
  have hz0 := z.size
  repeat' (first | simp -implicitDefEqProofs only [syms, symx, seval, c109, Bool.not_true, q0.lay, e0.lay, pol2, hv2] | ((with_reducible_and_instances apply zaj); (· rfl)))
  refine ziX d.clears _ _ (fun c => decide (c.who = who)) _ ((hd.s2.mono z.inc).lay _ _) hcl (fun x b hc K' xe hk' => ?_) _ (fun h' x => ?_)
  · rw [zpO]
    exact zoz who x b _ hc (e0.over xe) K' hk'
  have b0 := Holds.top (i := 0) x rfl
  ((skip); replace z := z.overW x (by (try simp only [lsz]); omega); (try replace q0 := q0.over x); (try replace e0 := e0.over x); (try replace b0 := b0.over x); rw [zaa h'])
  have hrd := zm1 (who := who) hrl
  have hvb := zcg p2
  rcases zps d.clears who with ⟨i, c, hi1, hi2, hi3⟩ | ⟨hi1, hi3⟩
  · rw [hi1]
    obtain ⟨c', hc, hc'⟩ := zcT (l := d.clears) (i := i) (by have := (List.getElem?_eq_some_iff.1 hi2).1; omega)
    cases hi2.symm.trans hc'
    repeat' (first | simp -implicitDefEqProofs only [syms, symx, seval, c109, q0.lay, pol2, hv2] | ((with_reducible  apply zav ) <;> intro _))
    rotate_left
    · exfalso; omega
    repeat' ((first | with_reducible_and_instances refine zhp (hd.s2.mono z.inc) ds51 zjb (by omega) hc (fun p b hb hp => ?_) | with_reducible_and_instances refine fdP1 hp ze3 (fun q hq => ?_) | with_reducible_and_instances refine zcn hq ag49 ?_) <;> simp -implicitDefEqProofs only [syms, symx, seval, c109, q0.lay, pol2, hv2])
    have hlo : c.reads.length ≤ 900 := by have := hrl c (List.mem_of_getElem? hi2); omega
    simp -implicitDefEqProofs only [syms, symx, seval, c109, zc5, styV]
    obtain ⟨wv, h2, A', e1, e2, e3, e4⟩ := zwK (T := tab) (t := 49) ds49 zcJ (by decide) (b0.on [] h'.low) (Sl.lay (by assumption) [] h'.low) hlo
    rw [e1, zaa h2]
    rw [← hi3] at e2
    have z2 := z.overW e3 (by omega)
    have hz2 := z.size
    have hA : h.size ≤ A' := by
      rcases e4 with e4 | e4
      · omega
      · rw [e4, zaf]; omega
    clear e1 e3 e4
    rw [zaa h2] at e2
    replace z2 := z2.upW [] h2.low (by omega)
    repeat' ( simp -implicitDefEqProofs only [syms, symx, seval, c109])
    obtain ⟨h3, s1, s2, s3⟩ := zhI e2 (by simp) (by simp only [List.length_cons]; omega)
    have z3 := z2.step s3 hA
    refine Ok.over (g := ziA) rfl s1 ?_
    rw [zaa h3]
    rw [zaa h3] at s2 z3
    repeat' ( simp -implicitDefEqProofs only [syms, symx, seval, c109])
    obtain ⟨ca, cn, cc, h4, c1, c2, c3⟩ := zpe s2 (by have := zdk d who; intro e; unfold zcW at this; rw [e] at this; simp at this; omega) (by rw [zcG, List.length_cons]; omega)
    have z4 := z3.step c3 hA
    refine Ok.over (g := zhZ) rfl c1 ?_
    rw [zaa h4]
    rw [zaa h4] at c2 z4
    simp -implicitDefEqProofs only [syms, symx, seval, c109]
    exact hk _ _ z4 c2
  · rw [hi1]
    have e2 := (show ∀ {N : Nat}, Holds h' N (.row [.string who] 9 false) → StrRow h' N 9 (.slice (some ⟨N, 0, none⟩) 1 1) (who :: zcS d.clears who) from fun q => by rw [hi3]; exact ⟨1, rfl, .inl ⟨by have := zon; omega, Nat.le_refl _⟩, q⟩) b0
    have z2 := z.upW [] h'.low (by omega)
    rw [zaa h'] at e2
    repeat' ( simp -implicitDefEqProofs only [syms, symx, seval, c109])
    obtain ⟨h3, s1, s2, s3⟩ := zhI e2 (by simp) (by simp only [List.length_cons]; omega)
    have z3 := z2.step s3 (by omega)
    refine Ok.over (g := ziA) rfl s1 ?_
    rw [zaa h3]
    rw [zaa h3] at s2 z3
    repeat' ( simp -implicitDefEqProofs only [syms, symx, seval, c109])
    obtain ⟨ca, cn, cc, h4, c1, c2, c3⟩ := zpe s2 (by have := zdk d who; intro e; unfold zcW at this; rw [e] at this; simp at this; omega) (by rw [zcG, List.length_cons]; omega)
    have z4 := z3.step c3 (by omega)
    refine Ok.over (g := zhZ) rfl c1 ?_
    rw [zaa h4]
    rw [zaa h4] at c2 z4
    simp -implicitDefEqProofs only [syms, symx, seval, c109]
    exact hk _ _ z4 c2
theorem zw4 (d : PolicyD) (who other : ByteArray) (p0 p1 p2 p5 p6 : Value) (q b : Int) (h : Heap) (hone : (zaM p0 p1 p2 p5 p6 q b).all Am.one = true) (hd : PolK h p0 p1 p2 p5 p6 d) (hps : d.principals.length ≤ 1000) (hcl : d.clears.length ≤ 1000) (hrl : ∀ c ∈ d.clears, c.reads.length ≤ 40) (K : Value → Heap → Prop)
    (hk : ∀ h', Ext h h' → K (.bool (zeu d who other)) h') : Ok Tryz.prog tab ov 71 [zea p0 p1 p2 p5 p6 q b, .string who, .string other] h K := by
  rw [zaa h]
  have z := Ext.refl h
  refine Ok.into rfl zu5 (zaG N71) rfl (m := 9) rfl ?_
  repeat' ( simp -implicitDefEqProofs only [syms, symx, seval, c71, za4, ↓zcA, zcv, zbN])
  refine zpr d who _ _ _ _ _ _ _ _ hone (hd.lay _ _) hps hcl hrl _ (fun w h' x hs => ?_)
  ((skip); replace z := z.overW x (by (try simp only [lsz]); omega); rw [zaa h'])
  have hvw := zcg w
  repeat' ( simp -implicitDefEqProofs only [syms, symx, seval, c71, hvw])
  refine zgL (zhm d who) w other _ (hs.lay _ _) (by have := zsy (who := who) hrl; omega) _ (fun h' x => ?_)
  rw [show hasS (zhm d who) other = zeu d who other from zs0 d who other]
  ((skip); replace z := z.overW x (by (try simp only [lsz]); omega); rw [zaa h'])
  repeat' ( simp -implicitDefEqProofs only [syms, symx, seval, c71])
  exact hk _ (z.upW _ _ (by omega))
end Go.Proofs.YtemapihoobmonaaGreatDoor
