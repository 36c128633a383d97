/- What is kept of requests. No condition. -/
import Derived.Test.YtemapihoobmonaaGreatDoorG27
import Derived.Test.YtemapihoobmonaaGreatDoorGCodec3
import Derived.Test.YtemapihoobmonaaGreatDoorG41
import Derived.Test.YtemapihoobmonaaGreatDoorG43
import Derived.Test.YtemapihoobmonaaGreatDoorG38
import Derived.Test.YtemapihoobmonaaGreatDoorG42
import Derived.Test.YtemapihoobmonaaGreatDoorG39
namespace Go.Am
set_option linter.unusedVariables false
noncomputable def zaR (d : PolicyD) (who : ByteArray) (s : SentD) : Bool := decide (s.sender = who) || (match reqO s.payload with
  | some x => decide (x.1 ≠ 3) && zjb d who s.sender
  | none => false)
theorem zuf {d : PolicyD} {who : ByteArray} {s : SentD} (h : s.sender = who) : zaR d who s = true := by
  unfold zaR
  rw [decide_eq_true h, Bool.true_or]
theorem zqx {d : PolicyD} {who : ByteArray} {s : SentD} (h : ¬ s.sender = who) (e : reqO s.payload = none) : zaR d who s = false := by
  unfold zaR
  rw [decide_eq_false h, Bool.false_or, e]
theorem zqu {d : PolicyD} {who : ByteArray} {s : SentD} {k : Nat} {a : AtomD} (h : ¬ s.sender = who) (e : reqO s.payload = some (k, a)) : zaR d who s = (decide (k ≠ 3) && zjb d who s.sender) := by
  unfold zaR
  rw [decide_eq_false h, Bool.false_or, e]
end Go.Am
namespace Go.Proofs.YtemapihoobmonaaGreatDoor
open Go.Am
set_option linter.unusedSimpArgs false
set_option linter.unusedVariables false
set_option maxRecDepth 100000
set_option maxHeartbeats 0
theorem rq_0 (k : Int) (a : AtomD) : (zbg k a)[0]? = some (.int .i64 k) := rfl
theorem zmQ (d : PolicyD) (who : ByteArray) (s : SentD) (p0 p1 p2 p5 p6 : Value) (q b : Int) (h : Heap) (hsp : SpaceAt 1 h) (hone : (zaC p0 p1 p2 p5 p6 q b).all Am.one = true) (hd : PolK h p0 p1 p2 p5 p6 d) (hps : d.principals.length ≤ 1000) (hcl : d.clears.length ≤ 1000) (hrl : ∀ c ∈ d.clears, c.reads.length ≤ 40) (hpl : s.payload.size ≤ 100000) (K : Value → Heap → Prop)
    (hk : ∀ h', Ext h h' → K (.bool (zaR d who s)) h') : Ok Tryz.prog tab ov 25 [zdg p0 p1 p2 p5 p6 q b, .string who, s.val] h K := by
  obtain ⟨sn, pl⟩ := s
  rw [zab h]
  have z := Ext.refl h
  have hva : ∀ (s : ByteArray) (h : Heap) (K : Value → Heap → Prop), valE (some (.string s)) h K = K (.string s) h := fun _ _ _ => rfl
  unfold SentD.val SentD.cells
  refine Ok.into rfl zvx (zaD N25) rfl (m := 30) rfl ?_
  simp -implicitDefEqProofs only [syms, symx, seval, c25, zav, ↓zaU, zaS, zaE, hva]
  refine zay (fun hh => ?_) (fun hh => ?_)
  · simp -implicitDefEqProofs only [syms, symx, seval, c25]
    rw [zuf (s := ⟨sn, pl⟩) hh] at hk
    exact hk _ (z.upW _ _ (by omega))
  simp -implicitDefEqProofs only [syms, symx, seval, c25, hva]
  refine zon pl hpl _ (hsp.lay _ _) _ (fun k a hr h' x => ?_) (fun hr h' c hc x => ?_)
  · have q0 := Holds.top (i := 0) x rfl
    have q1 := Holds.top (i := 1) x rfl
    ((skip); replace z := z.overW x (by (try simp only [lsz]); omega); rw [zab h'])
    rw [zqu (s := ⟨sn, pl⟩) hh hr] at hk
    simp -implicitDefEqProofs only [syms, symx, seval, c25, zb5, zbi, List.all_cons, List.all_nil, Am.one, Bool.and_true, Bool.true_and, Bool.and_self, List.set_cons_zero, List.set_cons_succ, st4, st3, st9, st23, st26, st29, zhx, st57, zcg, zjC, zjr, zjz, zge, zjY, List.append_nil, if_true, ↓zdT, zdL, zbR, beq_self_eq_true, rq_0]
    refine zmV (fun h3 => ?_) (fun h3 => ?_)
    · rw [decide_eq_true (show k ≠ 3 by omega), Bool.true_and] at hk
      repeat' ( simp -implicitDefEqProofs only [syms, symx, seval, c25, q0.lay, q1.lay, hva, zav, ↓zaU, zaS, zaE])
      refine zxB d who sn _ _ _ _ _ _ _ _ hone ((hd.mono z.inc).lay _ _) hps hcl hrl _ (fun h' x => ?_)
      ((skip); replace z := z.overW x (by (try simp only [lsz]); omega); (try replace q0 := q0.over x); (try replace q1 := q1.over x); rw [zab h'])
      show KOps _ _ _ _ _ _ _ _ (.bool (zjb d who sn)) _
      replace hk : ∀ h', Ext h h' → K (.bool (zjb d who sn)) h' := hk
      generalize zjb d who sn = bb at hk ⊢
      cases bb
      all_goals
        repeat' ( simp -implicitDefEqProofs only [syms, symx, seval, c25])
        exact hk _ (z.upW _ _ (by omega))
    · rw [decide_eq_false (show ¬ k ≠ 3 by omega), Bool.false_and] at hk
      simp -implicitDefEqProofs only [syms, symx, seval, c25]
      exact hk _ (z.upW _ _ (by omega))
  · ((skip); replace z := z.overW x (by (try simp only [lsz]); omega); (try replace q0 := q0.over x); (try replace q1 := q1.over x); rw [zab h'])
    rw [zqx (s := ⟨sn, pl⟩) hh hr] at hk
    simp -implicitDefEqProofs only [syms, symx, seval, c25, zb5, zbi, List.all_cons, List.all_nil, Am.one, Bool.and_true, Bool.true_and, Bool.and_self, List.set_cons_zero, List.set_cons_succ, st4, st3, st9, st23, st26, st29, zhx, st57, zcg, zjC, zjr, zjz, zge, zjY, List.append_nil, if_true, ↓zdT, zdL, zbR, show (c == 0) = false by simpa using hc]
    exact hk _ (z.upW _ _ (by omega))
theorem zox (d : PolicyD) (who : ByteArray) (s : SentD) (A B : Nat) (p0 p1 p2 p5 p6 : Value) (q b : Int) (h : Heap) (hsp : SpaceAt 1 h) (hone : (zaC p0 p1 p2 p5 p6 q b).all Am.one = true) (hd : PolK h p0 p1 p2 p5 p6 d) (hps : d.principals.length ≤ 1000) (hcl : d.clears.length ≤ 1000) (hrl : ∀ c ∈ d.clears, c.reads.length ≤ 40) (hpl : s.payload.size ≤ 100000) (q0 : Holds h A (.row (zaC p0 p1 p2 p5 p6 q b) 55 false)) (q1 : Holds h B (.row [.string who] 9 false)) (K : Value → Heap → Prop)
    (hk : ∀ h', Ext h h' → K (.bool (!zaR d who s)) h') : Ok Tryz.prog tab ov 81 [s.val, .pointer (some ⟨A, 0, none⟩), .pointer (some ⟨B, 0, none⟩)] h K := by
  rw [zab h]
  have z := Ext.refl h
  have hva : ∀ (s : ByteArray) (h : Heap) (K : Value → Heap → Prop), valE (some (.string s)) h K = K (.string s) h := fun _ _ _ => rfl
  refine Ok.into rfl zve (zaD N81) rfl (m := 7) rfl ?_
  repeat' ( simp -implicitDefEqProofs only [syms, symx, seval, c81, q0.lay, q1.lay, hva, zav, ↓zaU, zaS, zaE, zjO, ↓zeL, zd7, zcK])
  refine zmQ d who s _ _ _ _ _ _ _ _ (hsp.lay _ _) hone (hd.lay _ _) hps hcl hrl hpl _ (fun h' x => ?_)
  ((skip); replace z := z.overW x (by (try simp only [lsz]); omega); rw [zab h'])
  generalize zaR d who s = bb at hk ⊢
  cases bb
  all_goals
    repeat' (first | simp -implicitDefEqProofs only [syms, symx, seval, c81] | ((with_reducible_and_instances apply zan); (· rfl)))
    exact hk _ (z.upW _ _ (by omega))
theorem zk1 (v fv : Value) (h : Heap) (hl : Sl Rep.sent h v []) (K : Value → Heap → Prop) (hk : ∀ h', Ext h h' → K v h') : Ok Tryz.prog tab ov 113 [v, fv] h K := by
  rw [zab h]
  have z := Ext.refl h
  have hva := zbI v
  refine Ok.into rfl zmE (zaD N113) rfl (m := 40) rfl ?_
  repeat' ( simp -implicitDefEqProofs only [syms, symx, seval, c113, hva])
  refine zfw [] v fv (fun _ => false) h _ (z.upW _ _ (by omega)) (hl.lay _ _) (by simp) (fun x hx => absurd hx (by simp)) _ (fun h' x => ?_)
  ((skip); replace z := z.overW x (by (try simp only [lsz]); omega); rw [zab h'])
  rw [show idxP (fun _ : SentD => false) [] = -1 from rfl]
  simp -implicitDefEqProofs only [syms, symx, seval, c113, hva, beq_self_eq_true, zjG, Int.reduceBEq]
  exact hk _ (z.upW _ _ (by omega))
theorem ziI (l : List SentD) (v fv : Value) (pr : SentD → Bool) (h0 h : Heap) (z0 : Ext h0 h) (hl : Sl Rep.sent h v l) (hn : l.length ≤ 1000) (hpf : ∀ x ∈ l, ∀ (hc : Heap) (K : Value → Heap → Prop), Ext h hc → (∀ h', Ext hc h' → K (.bool (pr x)) h') → zhr Tryz.prog tab ov [x.val] hc K fv) (K : Value → Heap → Prop)
    (hk : ∀ h' w, Ext h h' → Sl Rep.sent h' w (l.filter (fun x => !pr x)) → K w h') : Ok Tryz.prog tab ov 80 [v, fv] h K := by
  rw [zab h]
  have z := Ext.refl h
  refine Ok.into rfl zvN (zaD N80) rfl (m := 7) rfl ?_
  simp -implicitDefEqProofs only [syms, symx, seval, c80, c31]
  refine zt3 l v _ (hl.lay _ _) (by omega) _ (fun h' w A x ho => ?_)
  ((skip); replace z := z.overW x (by (try simp only [lsz]); omega); rw [zab h'])
  have hvw := zbI w
  repeat' ( simp -implicitDefEqProofs only [syms, symx, seval, c80, c31, hvw])
  rcases OwnXT.own (zrx ho) (by omega) with ⟨e, he⟩ | ⟨A2, t, rfl, q, hA2, hle⟩
  · subst e
    refine zk1 w fv _ (he.lay _ _).sl _ (fun h' x => ?_)
    have he2 := he.over x
    ((skip); replace z := z.overW x (by (try simp only [lsz]); omega); rw [zab h'])
    repeat' ( simp -implicitDefEqProofs only [syms, symx, seval, c80, c31, hvw])
    exact hk _ _ (z.upW _ _ (by omega)) (he2.lay _ _).sl
  · have key := fun K hk => zk8 l t fv pr A2 _ h (h'.lay [] h'.low) (z.upW _ _ (by omega)) hA2 (q.on _ _) rfl hle hn (fun y hy hc K' xe hk' => hpf y hy hc K' xe hk') K hk
    refine key _ (fun h' w3 x ho => ?_)
    have hvw3 := zbI w3
    clear z
    have z := x
    rw [zab h']
    repeat' ( simp -implicitDefEqProofs only [syms, symx, seval, c80, c31, hvw3])
    exact hk _ _ (z.upW _ _ (by omega)) (ho.sl.lay _ _)
theorem zc9 (d : PolicyD) (who : ByteArray) (l : List SentD) (v : Value) (p0 p1 p2 p5 p6 : Value) (q b : Int) (h : Heap) (hsp : SpaceAt 1 h) (hone : (zaC p0 p1 p2 p5 p6 q b).all Am.one = true) (hd : PolK h p0 p1 p2 p5 p6 d) (hps : d.principals.length ≤ 1000) (hcl : d.clears.length ≤ 1000) (hrl : ∀ c ∈ d.clears, c.reads.length ≤ 40) (hl : Sl Rep.sent h v l) (hln : l.length ≤ 1000) (hpl : ∀ s ∈ l, s.payload.size ≤ 100000) (K : Value → Heap → Prop)
    (hk : ∀ h' w, Ext h h' → Sl Rep.sent h' w (l.filter (zaR d who)) → K w h') : Ok Tryz.prog tab ov 31 [zdg p0 p1 p2 p5 p6 q b, .string who, v] h K := by
  rw [zab h]
  have z := Ext.refl h
  have hva := zbI v
  refine Ok.into rfl zu2 (zaD N31) rfl (m := 7) rfl ?_
  repeat' ( simp -implicitDefEqProofs only [syms, symx, seval, c31, zav, ↓zaU, zaS, zaE, hva])
  refine ziI l v _ (fun s => !zaR d who s) h _ (z.upW _ _ (by omega)) (hl.lay _ _) hln (fun x hx hc K' xe hk' => ?_) _ (fun h' w x hw => ?_)
  · rw [zgc]
    have q0 : Holds hc (h.size + 0) (.row (zaC p0 p1 p2 p5 p6 q b) 55 false) := Holds.top (i := 0) xe rfl
    have q1 : Holds hc (h.size + 1) (.row [.string who] 9 false) := Holds.top (i := 1) xe rfl
    have zz : Ext h hc := z.overW xe (by omega)
    exact zox d who x _ _ _ _ _ _ _ _ _ hc (hsp.ext zz) hone (hd.mono zz.inc) hps hcl hrl (hpl x hx) q0 q1 K' hk'
  ((skip); replace z := z.overW x (by (try simp only [lsz]); omega); rw [zab h'])
  have hvw := zbI w
  rw [show (fun x => !(fun s => !zaR d who s) x) = zaR d who from funext fun x => Bool.not_not _] at hw
  repeat' ( simp -implicitDefEqProofs only [syms, symx, seval, c31, hvw])
  exact hk _ _ (z.upW _ _ (by omega)) (hw.lay _ _)
def eqS (x y : SentD) : Option Bool := andO (x.sender.data.toList == y.sender.data.toList) (andO (x.payload.data.toList == y.payload.data.toList) (some true))
theorem zoZ (x y : SentD) : eqS x y = some (decide (x = y)) := by
  obtain ⟨a, b⟩ := x
  obtain ⟨c, d⟩ := y
  have e : ∀ s u : ByteArray, (s.data.toList == u.data.toList) = decide (s = u) := fun s u => by
    rw [Bool.eq_iff_iff, beq_iff_eq, decide_eq_true_iff]
    exact ⟨fun h => ByteArray.ext (Array.toList_inj.1 h), fun h => by rw [h]⟩
  unfold eqS
  simp only [e, SentD.mk.injEq]
  by_cases h1 : a = c <;> by_cases h2 : b = d <;> simp [andO, h1, h2]
theorem zlR (a b : SentD) : binA Tryz.prog tab .neq 62 a.val b.val = some (.bool (!decide (a = b))) := by
  have h1 : binA Tryz.prog tab .neq 62 a.val b.val = (eqS a b).map fun b => .bool !b := by kernel_rfl
  rw [h1, zoZ]; rfl
theorem zhd (l m : List SentD) (v u : Value) (h : Heap) (hl : Sl Rep.sent h v l) (hm : Sl Rep.sent h u m) (hs : l.length ≤ 1000) (hs2 : m.length ≤ 1000) (K : Value → Heap → Prop)
    (hk : ∀ h', Ext h h' → K (.bool (decide (l = m))) h') : Ok Tryz.prog tab ov 33 [v, u] h K := by
  rw [zab h]
  have z := Ext.refl h
  have hln := fun (hh : Heap) => hl.lenA ds69 hh
  have hlm := fun (hh : Heap) => hm.lenA ds69 hh
  refine Ok.into rfl zwc (zaD N33) rfl (m := 24) rfl ?_
  simp -implicitDefEqProofs only [syms, symx, seval, c33, hln, hlm]
  refine zmV (fun hne => ?_) (fun heq => ?_)
  · rw [decide_eq_false (show ¬ l = m from fun e => by subst e; exact hne rfl)] at hk
    repeat' ( simp -implicitDefEqProofs only [syms, symx, seval, c33])
    exact hk _ (z.upW _ _ (by omega))
  have hlen : l.length = m.length := by omega
  repeat' ( simp -implicitDefEqProofs only [syms, symx, seval, c33])
  obtain ⟨I1, hI1⟩ : ∃ I : Nat → Env → Heap → Prop, I = (fun n e h' => ∃ (i : Nat) (h1 : Heap), h' = h1.lay [] h1.low ∧ Ext h h1 ∧ (n = l.length - i ∧ i ≤ l.length ∧ l.take i = m.take i) ∧ ∃ J : Nat → Value, e = (v :: u :: jr J 2 3 (.int .i64 i :: jr J 6 20 ([])))) := ⟨_, rfl⟩
  refine zaI I1 _ (by rw [hI1]; exact ⟨0, _, rfl, z, ⟨rfl, by omega, rfl⟩, junk (by kernel_rfl)⟩) ?_
  intro n e h' hin
  rw [hI1] at hin
  obtain ⟨i, h1', rfl, z, hinv, J, rfl⟩ := hin
  obtain ⟨rfl, hi, htk⟩ := hinv
  have hw : IntKind.i64.wrap ((i : Int) + 1) = ((i + 1 : Nat) : Int) := by rw [zae (by omega) (by omega)]; omega
  simp -implicitDefEqProofs only [syms, symx, seval, c33, hln]
  refine zay (fun hlt => ?_) (fun hlt => ?_)
  rotate_left
  · rw [List.take_of_length_le (by omega), List.take_of_length_le (by omega)] at htk
    rw [decide_eq_true htk] at hk
    repeat' ( simp -implicitDefEqProofs only [syms, symx, seval, c33])
    exact hk _ (z.upW _ _ (by omega))
  obtain ⟨r, hr, hr'⟩ := zbP (l := l) (i := i) (by omega)
  obtain ⟨s, hs, hs'⟩ := zbP (l := m) (i := i) (by omega)
  simp -implicitDefEqProofs only [syms, symx, seval, c33]
  repeat' ((first | with_reducible refine zdQ (by simp only [c33]) (z.upW _ _ (by omega)) ?_ | ((with_reducible  apply zmo ) <;> intro _) | with_reducible_and_instances refine ze2 (hl.mono z.inc) ds69 sz62 (by omega) hr (fun p hp => ?_) | with_reducible_and_instances refine ze2 (hm.mono z.inc) ds69 sz62 (by omega) hs (fun p hp => ?_) | with_reducible_and_instances refine ldS hp ag62 sz62 ?_ | ((with_reducible refine ⟨z.grw.lay _ _, ?_⟩); (intro _ h' zz x _); (try simp only [zau, List.append_nil] at x); (replace z := zz); (clear zz); rw [zab h'])) <;> simp -implicitDefEqProofs only [syms, symx, seval, c33, zlR])
  · have hne : ¬ r = s := by assumption
    rw [decide_eq_false (show ¬ l = m from fun e => by
      subst e
      rw [hr'] at hs'
      exact hne (Option.some.inj hs'))] at hk
    exact hk _ (z.upW _ _ (by omega))
  · have he : r = s := by assumption
    rw [hw]
    (rw [hI1]; with_reducible refine zaf (m := _) ?_ ⟨i + 1, _, rfl, z, ⟨rfl, by omega, by rw [List.take_add_one, List.take_add_one, hr', hs', htk, he]⟩, junk (by kernel_rfl)⟩; omega)
theorem zrY (b : SentD) (z0 z1 : Value) : zdY (fun i => some (i * 2, 2)) [z0, z1] [(0, b.val)] = some b.cells := rfl
theorem zwP {T : Tab} {t e : TypeId} {kd : IntKind} {i : Int} {v : Value} {h1 : Heap} {bs : List Blk} {w : Nat} {K : Value → Heap → Prop} {l : List SentD} {x : SentD} (f : Sl Rep.sent h1 v l) (hd : T.desc t = some (.slice e)) (hs : zaH T e = some 2) (h0 : 0 ≤ i) (hx : l[i.toNat]? = some x) (hk : ∀ p, AtP h1 p [.string x.sender, .string x.payload] → K p (h1.lay bs w)) : valE (zal T t v (.int kd i)) (h1.lay bs w) K := ze2 f hd hs h0 hx hk
theorem zfx (d : PolicyD) (l : List SentD) (v : Value) (p0 p1 p2 p5 p6 : Value) (q b : Int) (h : Heap) (hd : PolH h p0 p1 p2 p5 p6 d) (hl : Sl Rep.sent h v l) (K : Value → Heap → Prop)
    (h1k : d.principals.length ≤ 70 → d.clears.length ≤ 70 → (∀ c ∈ d.clears, c.reads.length ≤ 40) → l.length ≤ 30 → (∀ s ∈ l, s.payload.size ≤ 600) → ∀ h', Ext h h' → K (.bool true) h') (h2k : ∀ h', Ext h h' → K (.bool false) h') : Ok Tryz.prog tab ov 29 [zdg p0 p1 p2 p5 p6 q b, v] h K := by
  rw [zab h]
  have z := Ext.refl h
  have hva : ∀ (s : ByteArray) (h : Heap) (K : Value → Heap → Prop), valE (some (.string s)) h K = K (.string s) h := fun _ _ _ => rfl
  have hvv := zbI v
  have hlv := fun (hh : Heap) => hl.lenA ds69 hh
  refine Ok.into rfl zvG (zaD N29) rfl (m := 34) rfl ?_
  repeat' ( simp -implicitDefEqProofs only [syms, symx, seval, c29, zav, ↓zaU, zaS, zaE])
  refine zjj d _ _ _ _ _ _ _ _ (hd.lay _ _) _ (fun b1 b2 b3 h' x => ?_) (fun h' x => ?_)
  rotate_left
  · ((skip); replace z := z.overW x (by (try simp only [lsz]); omega); rw [zab h'])
    repeat' (first | simp -implicitDefEqProofs only [syms, symx, seval, c29, Bool.not_false] | ((with_reducible_and_instances apply zan); (· rfl)))
    exact h2k _ (z.upW _ _ (by omega))
  ((skip); replace z := z.overW x (by (try simp only [lsz]); omega); rw [zab h'])
  simp -implicitDefEqProofs only [syms, symx, seval, c29, Bool.not_true, hvv, hlv]
  (with_reducible_and_instances apply zan); (· rfl)
  simp -implicitDefEqProofs only [syms, symx, seval, c29, Bool.not_true, hvv, hlv]
  refine zay (fun hgt => ?_) (fun hgt => ?_)
  · simp -implicitDefEqProofs only [syms, symx, seval, c29]
    exact h2k _ (z.upW _ _ (by omega))
  simp -implicitDefEqProofs only [syms, symx, seval, c29]
  obtain ⟨I1, hI1⟩ : ∃ I : Nat → Env → Heap → Prop, I = (fun n e h' => ∃ (i : Nat) (h1 : Heap), h' = h1.lay [] h1.low ∧ Ext h h1 ∧ (n = l.length - i ∧ i ≤ l.length ∧ (∀ s ∈ l.take i, s.payload.size ≤ 600)) ∧ ∃ J : Nat → Value, e = (J 0 :: v :: jr J 2 3 (.int .i64 i :: jr J 6 30 ([])))) := ⟨_, rfl⟩
  refine zaI I1 _ (by rw [hI1]; exact ⟨0, _, rfl, z, ⟨rfl, by omega, by simp⟩, junk (by kernel_rfl)⟩) ?_
  intro n e h' hin
  rw [hI1] at hin
  obtain ⟨i, h1', rfl, z, hinv, J, rfl⟩ := hin
  obtain ⟨rfl, hi, hall⟩ := hinv
  have hwi : IntKind.i64.wrap ((i : Int) + 1) = ((i + 1 : Nat) : Int) := by rw [zae (by omega) (by omega)]; omega
  simp -implicitDefEqProofs only [syms, symx, seval, c29, hvv, hlv]
  refine zay (fun hlt => ?_) (fun hlt => ?_)
  · obtain ⟨r, hr, hr'⟩ := zbP (l := l) (i := i) (by omega)
    simp -implicitDefEqProofs only [syms, symx, seval, c29, hvv]
    repeat' ((first | ((with_reducible  apply zay ) <;> intro _) | with_reducible_and_instances refine zwP (hl.mono z.inc) ds69 sz62 (by omega) hr (fun p hp => ?_) | with_reducible_and_instances refine fdP0 hp zpv (fun qq hq => ?_) | with_reducible_and_instances refine fdP1 hp zo7 (fun qq hq => ?_) | with_reducible_and_instances refine zed hq ag9 ?_) <;> simp -implicitDefEqProofs only [syms, symx, seval, c29, hvv, hva])
    all_goals first
      | exact h2k _ (z.upW _ _ (by omega))
      | (rw [hwi]
         (rw [hI1]; with_reducible refine zaf (m := _) ?_ ⟨i + 1, _, rfl, z, ⟨rfl, by omega, zcU (i := i) (P := fun s : SentD => s.payload.size ≤ 600) hr' hall (by omega)⟩, junk (by kernel_rfl)⟩; omega))
  · rw [List.take_of_length_le (by omega)] at hall
    repeat' ( simp -implicitDefEqProofs only [syms, symx, seval, c29])
    exact h1k (by omega) (by omega) b3 (by omega) hall _ (z.upW _ _ (by omega))
end Go.Proofs.YtemapihoobmonaaGreatDoor
