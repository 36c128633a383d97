/- Walks: who is a member of a view, by any policy. Written out by fill2.py. No condition. -/
import Derived.Test.YtemapihoobmonaaGreatDoorG40
import Derived.Test.YtemapihoobmonaaGreatDoorG41
import Derived.Test.YtemapihoobmonaaGreatDoorG15
import Derived.Test.YtemapihoobmonaaGreatDoorG33
import Derived.Test.YtemapihoobmonaaGreatDoorG21
import Derived.Test.YtemapihoobmonaaGreatDoorG16
import Derived.Test.YtemapihoobmonaaGreatDoorGJoin
import Derived.Test.YtemapihoobmonaaGreatDoorG23
namespace Go.Proofs.YtemapihoobmonaaGreatDoor
open Go.Am
set_option linter.unusedSimpArgs false
set_option linter.unusedVariables false
set_option maxRecDepth 100000
set_option maxHeartbeats 0
theorem zsE (l : List ByteArray) (v : Value) (a : ByteArray) (h : Heap) (hl : Sl Rep.str h v l) (hs : l.length ≤ 1000) (K : Value → Heap → Prop)
    (hk : ∀ h', Ext h h' → K (.int .i64 (idxP (fun x => decide (a = x)) l)) h') : Ok Tryz.prog tab ov 140 [v, .string a] h K := by
  rw [zab h]
  have z := Ext.refl h
  refine Ok.into rfl zmD (zaD N140) rfl (m := 17) rfl ?_
  simp -implicitDefEqProofs only [syms, symx, seval, c140]
  repeat' (( with_reducible_and_instances refine zgC hl ds49 ?_) <;> simp -implicitDefEqProofs only [syms, symx, seval, c140])
  obtain ⟨I1, hI1⟩ : ∃ I : Nat → Env → Heap → Prop, I = (fun n e h' => ∃ (i : Nat) (h1 : Heap), h' = h1.lay [] h1.low ∧ Ext h h1 ∧ (n = l.length - i ∧ i ≤ l.length ∧ (∀ x ∈ l.take i, decide (a = x) = false)) ∧ ∃ J : Nat → Value, e = (v :: .string a :: jr J 2 5 (.int .i64 l.length :: .int .i64 i :: jr J 9 10 ([])))) := ⟨_, rfl⟩
  refine zaI I1 _ (by rw [hI1]; exact ⟨0, _, rfl, z, ⟨rfl, by omega, by simp⟩, junk (by kernel_rfl)⟩) ?_
  intro n e h' hin
  rw [hI1] at hin
  obtain ⟨i, h1', rfl, z, hinv, J, rfl⟩ := hin
  obtain ⟨rfl, hi, hall⟩ := hinv
  have hw : IntKind.i64.wrap ((i : Int) + 1) = ((i + 1 : Nat) : Int) := by rw [zae (by omega) (by omega)]; omega
  simp -implicitDefEqProofs only [syms, symx, seval, c140]
  refine zay (fun hlt => ?_) (fun hlt => ?_)
  rotate_left
  · simp -implicitDefEqProofs only [syms, symx, seval, c140]
    rw [List.take_of_length_le (by omega)] at hall
    have := zd4 hall
    rw [this] at hk
    exact hk _ (z.upW _ _ (by omega))
  obtain ⟨r, hr, hr'⟩ := zbP (l := l) (i := i) (by omega)
  repeat' (first | simp -implicitDefEqProofs only [syms, symx, seval, c140] | ((with_reducible  apply zay ) <;> intro _) | with_reducible_and_instances refine zt0 (hl.mono z.inc) ds49 sz9 (by omega) hr (fun p hp => ?_) | with_reducible_and_instances refine zed hp ag9 ?_)
  · have hx : a = r := by assumption
    have := zdP (p := fun x => decide (a = x)) hr' hall (decide_eq_true hx)
    rw [this] at hk
    exact hk _ (z.upW _ _ (by omega))
  · have hx : ¬ a = r := by assumption
    rw [hw]
    (rw [hI1]; with_reducible refine zaf (m := _) ?_ ⟨i + 1, _, rfl, z, ⟨rfl, by omega, zcU (i := i) (P := fun x : ByteArray => decide (a = x) = false) hr' hall (decide_eq_false hx)⟩, junk (by kernel_rfl)⟩; omega)
theorem zv8 (l : List ByteArray) (a : ByteArray) : decide (idxP (fun x => decide (a = x)) l ≥ 0) = hasS l a := by
  rw [zoi]
  unfold hasS
  congr 1
  funext x
  exact decide_eq_decide.2 ⟨Eq.symm, Eq.symm⟩
theorem zg0 (l : List ByteArray) (v : Value) (a : ByteArray) (h : Heap) (hl : Sl Rep.str h v l) (hs : l.length ≤ 1000) (K : Value → Heap → Prop)
    (hk : ∀ h', Ext h h' → K (.bool (hasS l a)) h') : Ok Tryz.prog tab ov 108 [v, .string a] h K := by
  refine Ok.into rfl zl6 (zaD N108) rfl (m := 7) rfl ?_
  simp -implicitDefEqProofs only [syms, symx, seval, c108]
  refine zsE l v a h hl hs _ (fun h' x => ?_)
  simp -implicitDefEqProofs only [syms, symx, seval, c108, zv8]
  refine zw1 (fun hh => ?_) (fun hh => ?_)
  all_goals
    simp -implicitDefEqProofs only [syms, symx, seval, c108]
    rw [hh] at hk
    exact hk _ x
theorem zk4 (l : List ByteArray) (who : ByteArray) (p0 p1 p2 p5 p6 : Value) (q b : Int) (h : Heap) (hl : Sl Rep.str h p0 l) (hs : l.length ≤ 1000) (K : Value → Heap → Prop) (hk : ∀ h', Ext h h' → K (.bool (hasS l who)) h') : Ok Tryz.prog tab ov 141 [zdg p0 p1 p2 p5 p6 q b, .string who] h K := by
  rw [zab h]
  have z := Ext.refl h
  have hva := zbI p0
  refine Ok.into rfl ztS (zaD N141) rfl (m := 7) rfl ?_
  repeat' ( simp -implicitDefEqProofs only [syms, symx, seval, c141, zav, pol0, hva])
  refine zg0 l _ who _ (hl.lay _ _) hs _ (fun h' x => ?_)
  ((skip); replace z := z.overW x (by (try simp only [lsz]); omega); rw [zab h'])
  repeat' ( simp -implicitDefEqProofs only [syms, symx, seval, c141])
  exact hk _ (z.upW _ _ (by omega))
theorem zji (l : List ClearD) (v fv : Value) (pr : ClearD → Bool) (h : Heap) (hl : Sl Rep.clear h v l) (hs : l.length ≤ 1000) (hpf : ∀ (x : ClearD) (b : Value) (hc : Heap) (K : Value → Heap → Prop), Ext h hc → (∀ h', Ext hc h' → K (.bool (pr x)) h') → zhr Tryz.prog tab ov [.agg ⟨[.string x.who, b]⟩] hc K fv) (K : Value → Heap → Prop)
    (hk : ∀ h', Ext h h' → K (.int .i64 (idxP pr l)) h') : Ok Tryz.prog tab ov 142 [v, fv] h K := by
  rw [zab h]
  have z := Ext.refl h
  refine Ok.into rfl zss (zaD N142) rfl (m := 17) rfl ?_
  simp -implicitDefEqProofs only [syms, symx, seval, c142]
  repeat' (( with_reducible_and_instances refine zgC hl ds51 ?_) <;> simp -implicitDefEqProofs only [syms, symx, seval, c142])
  obtain ⟨I1, hI1⟩ : ∃ I : Nat → Env → Heap → Prop, I = (fun n e h' => ∃ (i : Nat) (h1 : Heap), h' = h1.lay [] h1.low ∧ Ext h h1 ∧ (n = l.length - i ∧ i ≤ l.length ∧ ∀ x ∈ l.take i, pr x = false) ∧ ∃ J : Nat → Value, e = (v :: fv :: jr J 2 5 (.int .i64 l.length :: .int .i64 i :: jr J 9 10 ([])))) := ⟨_, rfl⟩
  refine zaI I1 _ (by rw [hI1]; exact ⟨0, _, rfl, z, ⟨rfl, by omega, by simp⟩, junk (by kernel_rfl)⟩) ?_
  intro n e h' hin
  rw [hI1] at hin
  obtain ⟨i, h1', rfl, z, hinv, J, rfl⟩ := hin
  obtain ⟨rfl, hi, hall⟩ := hinv
  have hw : IntKind.i64.wrap ((i : Int) + 1) = ((i + 1 : Nat) : Int) := by rw [zae (by omega) (by omega)]; omega
  repeat' (first | simp -implicitDefEqProofs only [syms, symx, seval, c142] | ((with_reducible  apply zay ) <;> intro _))
  rotate_left
  · rw [List.take_of_length_le (by omega)] at hall
    have := zd4 hall
    rw [this] at hk
    exact hk _ (z.upW _ _ (by omega))
  obtain ⟨r, hr, hr'⟩ := zbP (l := l) (i := i) (by assumption)
  repeat' ((first | with_reducible_and_instances refine zoY (hl.mono z.inc) ds51 znm (by omega) hr (fun p b hb hp => ?_) | with_reducible_and_instances refine ldP hp zwV znm ?_) <;> simp -implicitDefEqProofs only [syms, symx, seval, c142])
  refine hpf _ _ _ _ (z.upW _ _ (by omega)) (fun h' x => ?_)
  ((skip); replace z := z.overW x (by (try simp only [lsz]); omega); rw [zab h'])
  cases hx : pr r
  rotate_left
  · simp -implicitDefEqProofs only [syms, symx, seval, c142]
    have := zdP hr' hall hx
    rw [this] at hk
    exact hk _ (z.upW _ _ (by omega))
  · simp -implicitDefEqProofs only [syms, symx, seval, c142]
    rw [hw]
    (rw [hI1]; with_reducible refine zaf (m := _) ?_ ⟨i + 1, _, rfl, z, ⟨rfl, by omega, zcU (i := i) (P := fun x : ClearD => pr x = false) hr' hall hx⟩, junk (by kernel_rfl)⟩; omega)
theorem znV (who : ByteArray) (x : ClearD) (b : Value) (A : Nat) (h : Heap) (q0 : Holds h A (.row [.string who] 9 false)) (K : Value → Heap → Prop)
    (hk : ∀ h', Ext h h' → K (.bool (decide (x.who = who))) h') : Ok Tryz.prog tab ov 143 [.agg ⟨[.string x.who, b]⟩, .pointer (some ⟨A, 0, none⟩)] h K := by
  rw [zab h]
  have z := Ext.refl h
  refine Ok.into rfl zrM (zaD N143) rfl (m := 6) rfl ?_
  simp -implicitDefEqProofs only [syms, symx, seval, c143]
  repeat' ((first | ((with_reducible first | apply zay | apply zjg | apply zmV | apply zmo | apply zup) <;> intro _) | with_reducible_and_instances refine zoY (hl.mono z.inc) ds51 znm (by omega) hr (fun p b hb hp => ?_) | with_reducible_and_instances refine ldP hp zwV znm ?_) <;> simp -implicitDefEqProofs only [syms, symx, seval, c143, q0.lay])
  simp -implicitDefEqProofs only [syms, symx, seval, c143, q0.lay]
  refine zay (fun hh => ?_) (fun hh => ?_)
  · simp -implicitDefEqProofs only [syms, symx, seval, c143]
    rw [decide_eq_true hh] at hk
    exact hk _ (z.upW _ _ (by omega))
  · simp -implicitDefEqProofs only [syms, symx, seval, c143]
    rw [decide_eq_false hh] at hk
    exact hk _ (z.upW _ _ (by omega))
theorem styV : zfJ tab 49 49 = true := by kernel_rfl
theorem zpW (d : PolicyD) (who : ByteArray) (p0 p1 p2 p5 p6 : Value) (q b : Int) (h : Heap) (hone : (zaC p0 p1 p2 p5 p6 q b).all Am.one = true) (hd : PolK h p0 p1 p2 p5 p6 d) (hps : d.principals.length ≤ 1000) (hcl : d.clears.length ≤ 1000) (hrl : ∀ c ∈ d.clears, c.reads.length ≤ 40) (K : Value → Heap → Prop)
    (hk : ∀ w h', Ext h h' → Sl Rep.str h' w (ziK d who) → K w h') : Ok Tryz.prog tab ov 109 [zdg p0 p1 p2 p5 p6 q b, .string who] h K := by
  rw [zab h]
  have z := Ext.refl h
  have hv2 := zbI p2
  refine Ok.into rfl ztu (zaD N109) rfl (m := 29) rfl ?_
  repeat' ( simp -implicitDefEqProofs only [syms, symx, seval, c109, zav, ↓zaU, zaS, zaE])
  refine zk4 d.principals who _ _ _ _ _ _ _ _ (hd.s0.lay _ _) hps _ (fun h' x => ?_)
  have q0 := Holds.top (i := 0) x rfl
  have e0 := Holds.top (i := 1) x rfl
  ((skip); replace z := z.overW x (by (try simp only [lsz]); omega); (try replace q0 := q0.over x); (try replace e0 := e0.over x); rw [zab h'])
  cases hh : hasS d.principals who
  · repeat' (first | simp -implicitDefEqProofs only [syms, symx, seval, c109, Bool.not_false] | ((with_reducible_and_instances apply zan); (· rfl)))
    refine hk _ _ (z.upW _ _ (by omega)) ?_
    rw [show ziK d who = [] from if_neg (by show ¬ hasS d.principals who = true; rw [hh]; decide)]
    exact .inl ⟨rfl, rfl⟩
  have hvw : ziK d who = zep (zcS d who) := if_pos hh
  rw [hvw] at hk
  have hz0 := z.size
  repeat' (first | simp -implicitDefEqProofs only [syms, symx, seval, c109, Bool.not_true, q0.lay, e0.lay, pol2, hv2] | ((with_reducible_and_instances apply zan); (· rfl)))
  refine zji d.clears _ _ (fun c => decide (c.who = who)) _ ((hd.s2.mono z.inc).lay _ _) hcl (fun x b hc K' xe hk' => ?_) _ (fun h' x => ?_)
  · rw [zgc]
    exact znV who x b _ hc (e0.over xe) K' hk'
  have b0 := Holds.top (i := 0) x rfl
  ((skip); replace z := z.overW x (by (try simp only [lsz]); omega); (try replace q0 := q0.over x); (try replace e0 := e0.over x); (try replace b0 := b0.over x); rw [zab h'])
  have hrd := zlF (who := who) hrl
  have hvb := zbI p2
  rcases zp5 d.clears who with ⟨i, c, hi1, hi2, hi3⟩ | ⟨hi1, hi3⟩
  · rw [hi1]
    obtain ⟨c', hc, hc'⟩ := zbP (l := d.clears) (i := i) (by have := (List.getElem?_eq_some_iff.1 hi2).1; omega)
    cases hi2.symm.trans hc'
    repeat' (first | simp -implicitDefEqProofs only [syms, symx, seval, c109, q0.lay, pol2, hv2] | ((with_reducible  apply zay ) <;> intro _))
    rotate_left
    · exfalso; omega
    repeat' ((first | with_reducible_and_instances refine zoY (hd.s2.mono z.inc) ds51 znm (by omega) hc (fun p b hb hp => ?_) | with_reducible_and_instances refine fdP1 hp zkz (fun q hq => ?_) | with_reducible_and_instances refine zed hq ag49 ?_) <;> simp -implicitDefEqProofs only [syms, symx, seval, c109, q0.lay, pol2, hv2])
    have hlo : c.reads.length ≤ 900 := by have := hrl c (List.mem_of_getElem? hi2); omega
    simp -implicitDefEqProofs only [syms, symx, seval, c109, zeX, styV]
    obtain ⟨wv, h2, A', e1, e2, e3, e4⟩ := zw3 (T := tab) (t := 49) ds49 zmB (by decide) (b0.on [] h'.low) (Sl.lay (by assumption) [] h'.low) hlo
    rw [e1, zab h2]
    rw [← hi3] at e2
    have z2 := z.overW e3 (by omega)
    have hz2 := z.size
    have hA : h.size ≤ A' := by
      rcases e4 with e4 | e4
      · omega
      · rw [e4, zag]; omega
    clear e1 e3 e4
    rw [zab h2] at e2
    replace z2 := z2.upW [] h2.low (by omega)
    repeat' ( simp -implicitDefEqProofs only [syms, symx, seval, c109])
    obtain ⟨h3, s1, s2, s3⟩ := ziJ e2 (by simp) (by simp only [List.length_cons]; omega)
    have z3 := z2.step s3 hA
    refine Ok.over (g := zix) rfl s1 ?_
    rw [zab h3]
    rw [zab h3] at s2 z3
    repeat' ( simp -implicitDefEqProofs only [syms, symx, seval, c109])
    obtain ⟨ca, cn, cc, h4, c1, c2, c3⟩ := zpH s2 (by have := zdk d who; intro e; unfold zcS at this; rw [e] at this; simp at this; omega) (by rw [zcG, List.length_cons]; omega)
    have z4 := z3.step c3 hA
    refine Ok.over (g := zhY) rfl c1 ?_
    rw [zab h4]
    rw [zab h4] at c2 z4
    simp -implicitDefEqProofs only [syms, symx, seval, c109]
    exact hk _ _ z4 c2
  · rw [hi1]
    have e2 := (show ∀ {N : Nat}, Holds h' N (.row [.string who] 9 false) → StrRow h' N 9 (.slice (some ⟨N, 0, none⟩) 1 1) (who :: zeo d.clears who) from fun q => by rw [hi3]; exact ⟨1, rfl, .inl ⟨by have := zlI; omega, Nat.le_refl _⟩, q⟩) b0
    have z2 := z.upW [] h'.low (by omega)
    rw [zab h'] at e2
    repeat' ( simp -implicitDefEqProofs only [syms, symx, seval, c109])
    obtain ⟨h3, s1, s2, s3⟩ := ziJ e2 (by simp) (by simp only [List.length_cons]; omega)
    have z3 := z2.step s3 (by omega)
    refine Ok.over (g := zix) rfl s1 ?_
    rw [zab h3]
    rw [zab h3] at s2 z3
    repeat' ( simp -implicitDefEqProofs only [syms, symx, seval, c109])
    obtain ⟨ca, cn, cc, h4, c1, c2, c3⟩ := zpH s2 (by have := zdk d who; intro e; unfold zcS at this; rw [e] at this; simp at this; omega) (by rw [zcG, List.length_cons]; omega)
    have z4 := z3.step c3 (by omega)
    refine Ok.over (g := zhY) rfl c1 ?_
    rw [zab h4]
    rw [zab h4] at c2 z4
    simp -implicitDefEqProofs only [syms, symx, seval, c109]
    exact hk _ _ z4 c2
theorem zxB (d : PolicyD) (who other : ByteArray) (p0 p1 p2 p5 p6 : Value) (q b : Int) (h : Heap) (hone : (zaC p0 p1 p2 p5 p6 q b).all Am.one = true) (hd : PolK h p0 p1 p2 p5 p6 d) (hps : d.principals.length ≤ 1000) (hcl : d.clears.length ≤ 1000) (hrl : ∀ c ∈ d.clears, c.reads.length ≤ 40) (K : Value → Heap → Prop)
    (hk : ∀ h', Ext h h' → K (.bool (zjb d who other)) h') : Ok Tryz.prog tab ov 71 [zdg p0 p1 p2 p5 p6 q b, .string who, .string other] h K := by
  rw [zab h]
  have z := Ext.refl h
  refine Ok.into rfl zuE (zaD N71) rfl (m := 9) rfl ?_
  repeat' ( simp -implicitDefEqProofs only [syms, symx, seval, c71, zav, ↓zaU, zaS, zaE])
  refine zpW d who _ _ _ _ _ _ _ _ hone (hd.lay _ _) hps hcl hrl _ (fun w h' x hs => ?_)
  ((skip); replace z := z.overW x (by (try simp only [lsz]); omega); rw [zab h'])
  have hvw := zbI w
  repeat' ( simp -implicitDefEqProofs only [syms, symx, seval, c71, hvw])
  refine zg0 (ziK d who) w other _ (hs.lay _ _) (by have := ztv (who := who) hrl; omega) _ (fun h' x => ?_)
  rw [show hasS (ziK d who) other = zjb d who other from zum d who other]
  ((skip); replace z := z.overW x (by (try simp only [lsz]); omega); rw [zab h'])
  repeat' ( simp -implicitDefEqProofs only [syms, symx, seval, c71])
  exact hk _ (z.upW _ _ (by omega))
end Go.Proofs.YtemapihoobmonaaGreatDoor
namespace Go.Am
set_option linter.unusedVariables false
set_option linter.unusedSimpArgs false
def ints (l : List Int) : List Value := l.map (Value.int .i64)
end Go.Am
namespace Go.Am
set_option linter.unusedVariables false
section
variable {cl cl2 : List ClauseD} {facts facts2 : List AtomD}
theorem zpe (hc : ∀ c, c ∈ cl ↔ c ∈ cl2) (hf : ∀ a, a ∈ facts ↔ a ∈ facts2) : MayX cl facts ↔ MayX cl2 facts2 :=
  ⟨fun h => ⟨fun c hh => h.clauses c ((hc c).2 hh), fun a hh => h.facts a ((hf a).2 hh)⟩, fun h => ⟨fun c hh => h.clauses c ((hc c).1 hh), fun a hh => h.facts a ((hf a).1 hh)⟩⟩
theorem zmL (hm : MayX cl facts) (hc : ∀ c, c ∈ cl ↔ c ∈ cl2) (hf : ∀ a, a ∈ facts ↔ a ∈ facts2) : ∀ n, zbv cl facts n = zbv cl2 facts2 n
  | 0 => rfl
  | n + 1 => by
    have hm2 := (zpe hc hf).1 hm
    show zh5 cl facts (zbv cl facts n) = zh5 cl2 facts2 (zbv cl2 facts2 n)
    rw [zmL hm hc hf n]
    refine ztB (zoc (zhL hm (zdJ hm2 n))) (zoc (zhL hm2 (zdJ hm2 n))) (fun x => ⟨fun h => ?_, fun h => ?_⟩)
    · exact zkW (fun c => (hc c).1) (fun a => (hf a).1) (fun _ h => h) h
    · exact zkW (fun c => (hc c).2) (fun a => (hf a).2) (fun _ h => h) h
theorem zxo (hm : MayX cl facts) {n m : Nat} (h : n ≤ m) : ∀ a ∈ zbv cl facts n, a ∈ zbv cl facts m := by
  induction m with
  | zero => obtain rfl : n = 0 := by omega
            exact fun _ h => h
  | succ m ih =>
    by_cases e : n = m + 1
    · subst e; exact fun _ h => h
    · exact fun a ha => zsn hm m a (ih (by omega) a ha)
theorem zwk (hm : MayX cl facts) {n m : Nat} (h : n ≤ m) : (zbv cl facts n).length ≤ (zbv cl facts m).length := (zwR (zpg cl facts n) (zpg cl facts m) (zxo hm h)).1
theorem zjp {k : Nat} (h : zbv cl facts (k + 1) = zbv cl facts k) : ∀ n, zbv cl facts (k + n) = zbv cl facts k
  | 0 => rfl
  | n + 1 => by
    show zh5 cl facts (zbv cl facts (k + n)) = _
    rw [zjp h n]
    exact h
inductive LfpX (cl : List ClauseD) (facts : List AtomD) : List AtomD → Nat → Int → Prop
  | bad : ¬ MayX cl facts → LfpX cl facts [] 0 2
  | all (k : Nat) : MayX cl facts → (∀ i, i < k → (zbv cl facts i).length < (zbv cl facts (i + 1)).length) → (zbv cl facts k).length ≤ 24 → zbv cl facts (k + 1) = zbv cl facts k → LfpX cl facts (zbv cl facts k) k 0
  | much (k : Nat) : MayX cl facts → (∀ i, i < k → (zbv cl facts i).length < (zbv cl facts (i + 1)).length) → 24 < (zbv cl facts (k + 1)).length → LfpX cl facts [] 0 14
theorem LfpX.len {l : List AtomD} {n : Nat} {e : Int} (h : LfpX cl facts l n e) : l.length ≤ 24 := by
  cases h with
  | bad _ => exact Nat.zero_le _
  | all k _ _ h _ => exact h
  | much k _ _ _ => exact Nat.zero_le _
theorem LfpX.fact {l : List AtomD} {n : Nat} {e : Int} (h : LfpX cl facts l n e) : ∀ a ∈ l, FactX a := by
  cases h with
  | bad _ => nofun
  | all _ hm _ _ _ => exact zdJ hm n
  | much k _ _ _ => nofun
theorem ztV {k : Nat} (hm : MayX cl facts) (hb : ∀ i, i < k → (zbv cl facts i).length < (zbv cl facts (i + 1)).length) : ∀ i, i ≤ k → i ≤ (zbv cl facts i).length
  | 0, _ => Nat.zero_le _
  | i + 1, h => by
    have := ztV hm hb i (by omega)
    have := hb i (by omega)
    omega
theorem LfpX.round {l : List AtomD} {n : Nat} {e : Int} (h : LfpX cl facts l n e) : n ≤ 24 := by
  cases h with
  | bad _ => exact Nat.zero_le _
  | all _ hm hb h _ => exact Nat.le_trans (ztV hm hb n (Nat.le_refl _)) h
  | much k _ _ _ => exact Nat.zero_le _
theorem zpl {k k2 : Nat} (hm : MayX cl facts) (h4 : (zbv cl facts k).length ≤ 24) (hs : zbv cl facts (k + 1) = zbv cl facts k) (h : 24 < (zbv cl facts k2).length) : False := by
  by_cases hk : k2 ≤ k
  · have := zwk hm hk
    omega
  · have := zjp hs (k2 - k)
    rw [show k + (k2 - k) = k2 by omega] at this
    rw [this] at h
    omega
theorem LfpX.one {l l2 : List AtomD} {n n2 : Nat} {e e2 : Int} (h : LfpX cl facts l n e) (h2 : LfpX cl facts l2 n2 e2) : l = l2 ∧ n = n2 ∧ e = e2 := by
  cases h with
  | bad hm =>
    cases h2 with
    | bad _ => exact ⟨rfl, rfl, rfl⟩
    | all k hm2 => exact absurd hm2 hm
    | much k hm2 => exact absurd hm2 hm
  | all _ hm hb h4 hs =>
    cases h2 with
    | bad hm2 => exact absurd hm hm2
    | all _ hm2 hb2 h42 hs2 =>
      have hn : n = n2 := by
        rcases Nat.lt_trichotomy n n2 with hlt | he | hgt
        · have := hb2 n hlt
          rw [hs] at this
          omega
        · exact he
        · have := hb n2 hgt
          rw [hs2] at this
          omega
      subst hn
      exact ⟨rfl, rfl, rfl⟩
    | much k2 hm2 hb2 h2 => exact (zpl hm h4 hs h2).elim
  | much k hm hb h =>
    cases h2 with
    | bad hm2 => exact absurd hm hm2
    | all _ hm2 hb2 h42 hs2 => exact (zpl hm h42 hs2 h).elim
    | much k2 _ _ _ => exact ⟨rfl, rfl, rfl⟩
theorem LfpX.zero {l : List AtomD} {n : Nat} (h : LfpX cl facts l n 0) : MayX cl facts ∧ l = zbv cl facts n ∧ (∀ i, i < n → (zbv cl facts i).length < (zbv cl facts (i + 1)).length) ∧ l.length ≤ 24 ∧ zbv cl facts (n + 1) = l := by
  cases h with
  | all _ hm hb h4 hs => exact ⟨hm, rfl, hb, h4, hs⟩
theorem LfpX.iter {l : List AtomD} {n : Nat} {e : Int} (hm : MayX cl facts ↔ MayX cl2 facts2) (hi : MayX cl facts → ∀ n, zbv cl facts n = zbv cl2 facts2 n) (h : LfpX cl facts l n e) : LfpX cl2 facts2 l n e := by
  cases h with
  | bad h => exact .bad (fun x => h (hm.2 x))
  | all _ h hb h4 hs =>
    rw [hi h n] at h4 ⊢
    rw [hi h, hi h] at hs
    exact .all n (hm.1 h) (fun i hh => by rw [← hi h, ← hi h]; exact hb i hh) h4 hs
  | much k h hb h4 =>
    rw [hi h] at h4
    exact .much k (hm.1 h) (fun i hh => by rw [← hi h, ← hi h]; exact hb i hh) h4
theorem LfpX.same {l : List AtomD} {n : Nat} {e : Int} (hc : ∀ c, c ∈ cl ↔ c ∈ cl2) (hf : ∀ a, a ∈ facts ↔ a ∈ facts2) (h : LfpX cl facts l n e) : LfpX cl2 facts2 l n e :=
  h.iter (zpe hc hf) (fun hm => zmL hm hc hf)
end
def Rep.old {α : Type} (r : Rep α) (B : Heap) : Rep α := { k := r.k, R := fun h cs x => Inc B h ∧ r.R B cs x, len := fun h cs x hh => r.len _ _ _ hh.2, mono := fun h h' cs x i hh => ⟨hh.1.trans i, hh.2⟩, ones := fun h cs x hh => r.ones _ _ _ hh.2 }
theorem Sl.old {α : Type} {r : Rep α} {B : Heap} {v : Value} {l : List α} (f : Sl r B v l) : Sl (r.old B) B v l := by
  rcases f with f | ⟨A, o, c, row, u, ro, e1, e2, e3, e4, e5, e6⟩
  · exact .inl f
  · refine .inr ⟨A, o, c, row, u, ro, e1, e2, e3, e4, e5, fun i x hx => ?_⟩
    obtain ⟨cs, g1, g2⟩ := e6 i x hx
    exact ⟨cs, g1, Inc.refl _, g2⟩
end Go.Am
