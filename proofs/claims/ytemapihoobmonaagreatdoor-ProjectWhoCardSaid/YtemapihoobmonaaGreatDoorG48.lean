/- What is kept of requests. No condition. -/
import Derived.Test.YtemapihoobmonaaGreatDoorG47
import Derived.Test.YtemapihoobmonaaGreatDoorG25
import Derived.Test.YtemapihoobmonaaGreatDoorG44
import Derived.Test.YtemapihoobmonaaGreatDoorG39
import Derived.Test.YtemapihoobmonaaGreatDoorZV4
import Derived.Test.YtemapihoobmonaaGreatDoorG41
import Derived.Test.YtemapihoobmonaaGreatDoorG46
import Derived.Test.YtemapihoobmonaaGreatDoorG10
namespace Go.Am
set_option linter.unusedVariables false
noncomputable def zhq (d : PolicyD) (who : ByteArray) (s : SentD) : Bool := decide (s.sender = who) || (match reqO s.payload with
  | some x => decide (x.1 ≠ 3) && zeu d who s.sender
  | none => false)
theorem zmx {d : PolicyD} {who : ByteArray} {s : SentD} (h : s.sender = who) : zhq d who s = true := by
  unfold zhq
  rw [decide_eq_true h, Bool.true_or]
theorem zdO {d : PolicyD} {who : ByteArray} {s : SentD} (h : ¬ s.sender = who) (e : reqO s.payload = none) : zhq d who s = false := by
  unfold zhq
  rw [decide_eq_false h, Bool.false_or, e]
theorem zj2 {d : PolicyD} {who : ByteArray} {s : SentD} {k : Nat} {a : AtomD} (h : ¬ s.sender = who) (e : reqO s.payload = some (k, a)) : zhq d who s = (decide (k ≠ 3) && zeu d who s.sender) := by
  unfold zhq
  rw [decide_eq_false h, Bool.false_or, e]
end Go.Am
namespace Go.Proofs.YtemapihoobmonaaGreatDoor
open Go.Am
set_option linter.unusedSimpArgs false
set_option linter.unusedVariables false
set_option maxRecDepth 100000
set_option maxHeartbeats 0
theorem rq_0 (k : Int) (a : AtomD) : (zaF k a)[0]? = some (.int .i64 k) := rfl
theorem zdE (d : PolicyD) (who : ByteArray) (s : SentD) (p0 p1 p2 p5 p6 : Value) (q b : Int) (h : Heap) (hsp : SpaceAt 1 h) (hone : (zaM p0 p1 p2 p5 p6 q b).all Am.one = true) (hd : PolK h p0 p1 p2 p5 p6 d) (hps : d.principals.length ≤ 1000) (hcl : d.clears.length ≤ 1000) (hrl : ∀ c ∈ d.clears, c.reads.length ≤ 40) (hpl : s.payload.size ≤ 100000) (K : Value → Heap → Prop)
    (hk : ∀ h', Ext h h' → K (.bool (zhq d who s)) h') : Ok Tryz.prog tab ov 25 [zea p0 p1 p2 p5 p6 q b, .string who, s.val] h K := by
  obtain ⟨sn, pl⟩ := s
  rw [zaa h]
  have z := Ext.refl h
  have hva : ∀ (s : ByteArray) (h : Heap) (K : Value → Heap → Prop), valE (some (.string s)) h K = K (.string s) h := fun _ _ _ => rfl
  unfold SentD.val SentD.cells
  refine Ok.into rfl zva (zaG N25) rfl (m := 30) rfl ?_
  simp -implicitDefEqProofs only [syms, symx, seval, c25, za4, ↓zcA, zcv, zbN, hva]
  refine zav (fun hh => ?_) (fun hh => ?_)
  · simp -implicitDefEqProofs only [syms, symx, seval, c25]
    rw [zmx (s := ⟨sn, pl⟩) hh] at hk
    exact hk _ (z.upW _ _ (by omega))
  simp -implicitDefEqProofs only [syms, symx, seval, c25, hva]
  refine zos pl hpl _ (hsp.lay _ _) _ (fun k a hr h' x => ?_) (fun hr h' c hc x => ?_)
  · have q0 := Holds.top (i := 0) x rfl
    have q1 := Holds.top (i := 1) x rfl
    ((skip); replace z := z.overW x (by (try simp only [lsz]); omega); rw [zaa h'])
    rw [zj2 (s := ⟨sn, pl⟩) hh hr] at hk
    simp -implicitDefEqProofs only [syms, symx, seval, c25, za2, zax, List.all_cons, List.all_nil, Am.one, Bool.and_true, Bool.true_and, Bool.and_self, List.set_cons_zero, List.set_cons_succ, st4, st3, st9, st23, st26, st29, zcQ, st57, zaE, zcr, zcs, zct, zbA, zcu, List.append_nil, if_true, ↓za6, za7, zaz, beq_self_eq_true, rq_0]
    refine zjk (fun h3 => ?_) (fun h3 => ?_)
    · rw [decide_eq_true (show k ≠ 3 by omega), Bool.true_and] at hk
      repeat' ( simp -implicitDefEqProofs only [syms, symx, seval, c25, q0.lay, q1.lay, hva, za4, ↓zcA, zcv, zbN])
      refine zw4 d who sn _ _ _ _ _ _ _ _ hone ((hd.mono z.inc).lay _ _) hps hcl hrl _ (fun h' x => ?_)
      ((skip); replace z := z.overW x (by (try simp only [lsz]); omega); (try replace q0 := q0.over x); (try replace q1 := q1.over x); rw [zaa h'])
      show KOps _ _ _ _ _ _ _ _ (.bool (zeu d who sn)) _
      replace hk : ∀ h', Ext h h' → K (.bool (zeu d who sn)) h' := hk
      generalize zeu d who sn = bb at hk ⊢
      cases bb
      all_goals
        repeat' ( simp -implicitDefEqProofs only [syms, symx, seval, c25])
        exact hk _ (z.upW _ _ (by omega))
    · rw [decide_eq_false (show ¬ k ≠ 3 by omega), Bool.false_and] at hk
      simp -implicitDefEqProofs only [syms, symx, seval, c25]
      exact hk _ (z.upW _ _ (by omega))
  · ((skip); replace z := z.overW x (by (try simp only [lsz]); omega); (try replace q0 := q0.over x); (try replace q1 := q1.over x); rw [zaa h'])
    rw [zdO (s := ⟨sn, pl⟩) hh hr] at hk
    simp -implicitDefEqProofs only [syms, symx, seval, c25, za2, zax, List.all_cons, List.all_nil, Am.one, Bool.and_true, Bool.true_and, Bool.and_self, List.set_cons_zero, List.set_cons_succ, st4, st3, st9, st23, st26, st29, zcQ, st57, zaE, zcr, zcs, zct, zbA, zcu, List.append_nil, if_true, ↓za6, za7, zaz, show (c == 0) = false by simpa using hc]
    exact hk _ (z.upW _ _ (by omega))
theorem zeJ (x y : ByteArray) : zci tab 62 [(0, .string x), (1, .string y)] = some (⟨x, y⟩ : SentD).val := by kernel_rfl
theorem zmX (k : Int) (a : AtomD) (h : Heap) (K : Value → Heap → Prop)
    (hk : ∀ h' s e, Ext h h' → s.size ≤ 4096 → (e = 0 → ∃ m : Nat, k = m ∧ reqO s = some (m, a)) → K (.tuple #[.string s, .int .i64 e]) h') : Ok Tryz.prog tab ov 26 [zcm k a] h K :=
  zlA k a h K (fun m e h1 h3 hv hs h' x => hk _ _ _ x hs (fun _ => ⟨m, e, zxS hv h1 h3 hs⟩)) (fun h' c hc x => hk _ _ _ x (by decide) (fun e => absurd e hc))
theorem ztp {l : List ByteArray} {k : Nat} {r x : ByteArray} (h : l[k]? = some r) : hasB (l.take (k + 1)) x = (hasB (l.take k) x || decide (r = x)) := by
  unfold hasB
  rw [List.take_add_one, h]
  simp
theorem zxG : binA Tryz.prog tab .neq 4 (.bool false) (.bool false) = some (.bool false) := by kernel_rfl
theorem zyh : binA Tryz.prog tab .neq 4 (.bool true) (.bool true) = some (.bool false) := by kernel_rfl
theorem zkU (d : PolicyD) (who other : ByteArray) (rk : Int) (ra : AtomD) (bts : ByteArray) (v rv : Value) (h : Heap) (hsp : SpaceAt 1 h) (hx : PolV h v d) (hrv : rv = zcm rk ra) (K : Value → Heap → Prop)
    (hk : ∀ h', Ext h h' → K (.bool true) h') : Ok Tryz.prog tab ov 5 [v, .string who, .string other, rv, .string bts] h K := by
  subst hrv
  obtain ⟨p0, p1, p2, p5, p6, q, b, rfl, hd⟩ := hx
  have hone := hd.one q b
  rw [zaa h]
  have z := Ext.refl h
  have hva : ∀ (s : ByteArray) (h : Heap) (K : Value → Heap → Prop), valE (some (.string s)) h K = K (.string s) h := fun _ _ _ => rfl
  have hct : cut (zaF rk ra) 1 11 = some ra.cells := rfl
  have hc0 : (zaF rk ra)[0]? = some (.int .i64 rk) := rfl
  refine Ok.into rfl zwI (zaG N5) rfl (m := 105) rfl ?_
  simp -implicitDefEqProofs only [syms, symx, seval, c5, za4, zaE, hva]
  refine Ok.over (g := zqf 1) rfl (zuv (hsp.lay _ _)) ?_
  repeat' (first | simp -implicitDefEqProofs only [syms, symx, seval, c5, Bool.not_true, za4, ↓zcA, zcv, zbN] | ((with_reducible_and_instances apply zaj); (· rfl)))
  refine zjh d _ _ _ _ _ _ _ _ (hd.lay _ _) _ (fun b1 b2 b3 h' x => ?_) (fun h' x => ?_)
  rotate_left
  · ((skip); replace z := z.overW x (by (try simp only [lsz]); omega); rw [zaa h'])
    repeat' (first | simp -implicitDefEqProofs only [syms, symx, seval, c5, Bool.not_false] | ((with_reducible_and_instances apply zaj); (· rfl)))
    exact hk _ (z.upW _ _ (by omega))
  have qP := Holds.top (i := 0) x rfl
  have qR := Holds.top (i := 1) x rfl
  ((skip); replace z := z.overW x (by (try simp only [lsz]); omega); rw [zaa h'])
  obtain ⟨P0, hP0⟩ : ∃ P0, P0 = h.size + 0 := ⟨_, rfl⟩
  obtain ⟨R0, hR0⟩ : ∃ R0, R0 = h.size + 1 := ⟨_, rfl⟩
  rw [← hP0] at qP
  rw [← hR0] at qR
  rw [← hP0, ← hR0]
  repeat' (first | simp -implicitDefEqProofs only [syms, symx, seval, c5, Bool.not_true, qR.lay, ↓hct, zaA, zak] | ((with_reducible_and_instances apply zaj); (· rfl)))
  refine zg6 ra _ _ (fun hlt h' x => ?_) (fun hlt h' x => ?_)
  rotate_left
  · ((skip); replace z := z.overW x (by (try simp only [lsz]); omega); (try replace qP := qP.over x); (try replace qR := qR.over x); rw [zaa h'])
    repeat' (first | simp -implicitDefEqProofs only [syms, symx, seval, c5, Bool.not_false] | ((with_reducible_and_instances apply zaj); (· rfl)))
    exact hk _ (z.upW _ _ (by omega))
  ((skip); replace z := z.overW x (by (try simp only [lsz]); omega); (try replace qP := qP.over x); (try replace qR := qR.over x); rw [zaa h'])
  repeat' (first | simp -implicitDefEqProofs only [syms, symx, seval, c5, Bool.not_true, hva, qP.lay, za4, ↓zcA, zcv, zbN, zeJ, zdS] | ((with_reducible  apply zav ) <;> intro _) | ((with_reducible_and_instances apply zaj); (· rfl)))
  all_goals try exact hk _ (z.upW _ _ (by omega))
  have hps : d.principals.length ≤ 1000 := by omega
  have hcl : d.clears.length ≤ 1000 := by omega
  have hbt : bts.size ≤ 600 := by omega
  refine zdE d who ⟨who, bts⟩ _ _ _ _ _ _ _ _ ((hsp.ext z).lay _ _) hone ((hd.mono z.inc).lay _ _).k hps hcl b3 (by show bts.size ≤ _; omega) _ (fun h' x => ?_)
  rw [zmx (s := ⟨who, bts⟩) rfl]
  ((skip); replace z := z.overW x (by (try simp only [lsz]); omega); (try replace qP := qP.over x); (try replace qR := qR.over x); rw [zaa h'])
  simp -implicitDefEqProofs only [syms, symx, seval, c5, Bool.not_true, hva]
  (with_reducible_and_instances apply zaj); (· rfl)
  simp -implicitDefEqProofs only [syms, symx, seval, c5, Bool.not_true, hva]
  refine zav (fun heq => ?_) (fun hne => ?_)
  · simp -implicitDefEqProofs only [syms, symx, seval, c5]
    exact hk _ (z.upW _ _ (by omega))
  have hno : ¬ other = who := fun e => hne e.symm
  repeat' ( simp -implicitDefEqProofs only [syms, symx, seval, c5, qR.lay, ↓za6, za7, zaz])
  refine zmX rk ra _ _ (fun h' s er x hss hreq => ?_)
  ((skip); replace z := z.overW x (by (try simp only [lsz]); omega); (try replace qP := qP.over x); (try replace qR := qR.over x); rw [zaa h'])
  repeat' ( simp -implicitDefEqProofs only [syms, symx, seval, c5, hva, qP.lay, za4, ↓zcA, zcv, zbN])
  refine znE d who _ _ _ _ _ _ _ _ hone ((hd.mono z.inc).lay _ _).k hps hcl b3 _ (fun h' w l x sl hl41 hmem => ?_)
  ((skip); replace z := z.overW x (by (try simp only [lsz]); omega); (try replace qP := qP.over x); (try replace qR := qR.over x); rw [zaa h'])
  have hvw := zcg w
  have hlw := fun (hh : Heap) => sl.lenA ds49 hh
  repeat' ( simp -implicitDefEqProofs only [syms, symx, seval, c5, hvw])
  obtain ⟨I1, hI1⟩ : ∃ I : Nat → Env → Heap → Prop, I = (fun n e h' => ∃ (i : Nat) (bb : Bool) (h1 : Heap), h' = h1.lay [] h1.low ∧ Ext h h1 ∧ (n = l.length - i ∧ i ≤ l.length ∧ bb = hasB (l.take i) other ∧ Sl Rep.str h1 w l ∧ Holds h1 P0 (.row (zaM p0 p1 p2 p5 p6 q b) 55 false) ∧ Holds h1 R0 (.row (zaF rk ra) 57 false)) ∧ ∃ J : Nat → Value, e = (J 0 :: .string who :: .string other :: J 3 :: .string bts :: .pointer (some ⟨P0, 0, none⟩) :: jr J 6 2 (.pointer (some ⟨R0, 0, none⟩) :: jr J 9 2 (.string s :: .int .i64 er :: w :: .bool bb :: .int .i64 i :: jr J 16 94 ([]))))) := ⟨_, rfl⟩
  refine za3 I1 _ (by rw [hI1]; exact ⟨0, false, _, rfl, z, ⟨rfl, by omega, rfl, sl, qP, qR⟩, junk (by kernel_rfl)⟩) ?_
  intro n e h' hin
  rw [hI1] at hin
  obtain ⟨i, bb, h1', rfl, z, hinv, J, rfl⟩ := hin
  clear sl qP qR
  obtain ⟨rfl, hi, hbb, sl, qP, qR⟩ := hinv
  have hwi : IntKind.i64.wrap ((i : Int) + 1) = ((i + 1 : Nat) : Int) := by rw [zal (by omega) (by omega)]; omega
  simp -implicitDefEqProofs only [syms, symx, seval, c5, hvw, hlw]
  refine zav (fun hlt2 => ?_) (fun hlt2 => ?_)
  · obtain ⟨r, hr, hr'⟩ := zcT (l := l) (i := i) (by omega)
    have htk := ztp (x := other) hr'
    cases bb
    · simp -implicitDefEqProofs only [syms, symx, seval, c5, hvw]
      repeat' ((first | ((with_reducible  apply zav ) <;> intro _) | with_reducible_and_instances refine zfN sl ds49 sz9 (by omega) hr (fun p hp => ?_) | with_reducible_and_instances refine zcn hp ag9 ?_) <;> simp -implicitDefEqProofs only [syms, symx, seval, c5, hvw, hva])
      · have he : r = other := by assumption
        rw [hwi]
        (rw [hI1]; with_reducible refine zam (m := _) ?_ ⟨i + 1, true, _, rfl, z, ⟨rfl, by omega, by rw [htk, decide_eq_true he, Bool.or_true], sl, qP, qR⟩, junk (by kernel_rfl)⟩; omega)
      · have he : ¬ r = other := by assumption
        rw [hwi]
        (rw [hI1]; with_reducible refine zam (m := _) ?_ ⟨i + 1, false, _, rfl, z, ⟨rfl, by omega, by rw [htk, ← hbb, decide_eq_false he, Bool.or_false], sl, qP, qR⟩, junk (by kernel_rfl)⟩; omega)
    · simp -implicitDefEqProofs only [syms, symx, seval, c5, hvw]
      rw [hwi]
      (rw [hI1]; with_reducible refine zam (m := _) ?_ ⟨i + 1, true, _, rfl, z, ⟨rfl, by omega, by rw [htk, ← hbb, Bool.true_or], sl, qP, qR⟩, junk (by kernel_rfl)⟩; omega)
  · rw [List.take_of_length_le (by omega), hmem] at hbb
    subst hbb
    clear sl
    simp -implicitDefEqProofs only [syms, symx, seval, c5, hva]
    refine zf1 (fun he0 => ?_) (fun he0 => ?_)
    · obtain ⟨m, hm, hrq⟩ := hreq he0
      have hkp := zj2 (d := d) (who := who) (s := ⟨other, s⟩) (k := m) (a := ra) hno hrq
      repeat' ( simp -implicitDefEqProofs only [syms, symx, seval, c5, hva, qP.lay, za4, ↓zcA, zcv, zbN, zeJ, zdS])
      refine zdE d who ⟨other, s⟩ _ _ _ _ _ _ _ _ ((hsp.ext z).lay _ _) hone ((hd.mono z.inc).lay _ _).k hps hcl b3 (by show s.size ≤ _; omega) _ (fun h' x => ?_)
      rw [hkp]
      ((skip); replace z := z.overW x (by (try simp only [lsz]); omega); (try replace qP := qP.over x); (try replace qR := qR.over x); rw [zaa h'])
      subst hm
      show KOps _ _ _ _ _ _ _ _ (.bool (decide (m ≠ 3) && zeu d who other)) _
      generalize zeu d who other = S
      cases S
      · rw [Bool.and_false]
        repeat' ( simp -implicitDefEqProofs only [syms, symx, seval, c5, qR.lay, hc0, zxG])
        refine zd6 bts (by omega) _ _ (fun k a hr h' x => ?_) (fun hr h' c hc x => ?_)
        · ((skip); replace z := z.overW x (by (try simp only [lsz]); omega); (try replace qP := qP.over x); (try replace qR := qR.over x); rw [zaa h'])
          repeat' ( simp -implicitDefEqProofs only [syms, symx, seval, c5, za2, zax, List.all_cons, List.all_nil, Am.one, Bool.and_true, Bool.true_and, Bool.and_self, List.set_cons_zero, List.set_cons_succ, st4, st3, st9, st23, st26, st29, zcQ, st57, zaE, zcr, zcs, zct, zbA, zcu, List.append_nil, if_true, ↓za6, za7, zaz, beq_self_eq_true])
          exact hk _ (z.upW _ _ (by omega))
        · have hkn := zdO (d := d) (who := who) (s := ⟨other, bts⟩) hno hr
          have hcq : (c == 0) = false := by simpa using hc
          ((skip); replace z := z.overW x (by (try simp only [lsz]); omega); (try replace qP := qP.over x); (try replace qR := qR.over x); rw [zaa h'])
          repeat' ( simp -implicitDefEqProofs only [syms, symx, seval, c5, za2, zax, List.all_cons, List.all_nil, Am.one, Bool.and_true, Bool.true_and, Bool.and_self, List.set_cons_zero, List.set_cons_succ, st4, st3, st9, st23, st26, st29, zcQ, st57, zaE, zcr, zcs, zct, zbA, zcu, List.append_nil, if_true, ↓za6, za7, zaz, hcq, hva, qP.lay, za4, ↓zcA, zcv, zbN, zeJ, zdS])
          refine zdE d who ⟨other, bts⟩ _ _ _ _ _ _ _ _ ((hsp.ext z).lay _ _) hone ((hd.mono z.inc).lay _ _).k hps hcl b3 (by show bts.size ≤ _; omega) _ (fun h' x => ?_)
          rw [hkn]
          ((skip); replace z := z.overW x (by (try simp only [lsz]); omega); (try replace qP := qP.over x); (try replace qR := qR.over x); rw [zaa h'])
          simp -implicitDefEqProofs only [syms, symx, seval, c5]
          (with_reducible_and_instances apply zaj); (· rfl)
          simp -implicitDefEqProofs only [syms, symx, seval, c5, Bool.not_false]
          exact hk _ (z.upW _ _ (by omega))
      · rw [Bool.and_true]
        by_cases hm3 : m = 3
        · have hme : ((m : Int) != 3) = false := by subst hm3; rfl
          rw [decide_eq_false (show ¬ m ≠ 3 from fun g => g hm3)]
          repeat' ( simp -implicitDefEqProofs only [syms, symx, seval, c5, qR.lay, hc0, hme, zxG])
          refine zd6 bts (by omega) _ _ (fun k a hr h' x => ?_) (fun hr h' c hc x => ?_)
          · ((skip); replace z := z.overW x (by (try simp only [lsz]); omega); (try replace qP := qP.over x); (try replace qR := qR.over x); rw [zaa h'])
            repeat' ( simp -implicitDefEqProofs only [syms, symx, seval, c5, za2, zax, List.all_cons, List.all_nil, Am.one, Bool.and_true, Bool.true_and, Bool.and_self, List.set_cons_zero, List.set_cons_succ, st4, st3, st9, st23, st26, st29, zcQ, st57, zaE, zcr, zcs, zct, zbA, zcu, List.append_nil, if_true, ↓za6, za7, zaz, beq_self_eq_true])
            exact hk _ (z.upW _ _ (by omega))
          · have hkn := zdO (d := d) (who := who) (s := ⟨other, bts⟩) hno hr
            have hcq : (c == 0) = false := by simpa using hc
            ((skip); replace z := z.overW x (by (try simp only [lsz]); omega); (try replace qP := qP.over x); (try replace qR := qR.over x); rw [zaa h'])
            repeat' ( simp -implicitDefEqProofs only [syms, symx, seval, c5, za2, zax, List.all_cons, List.all_nil, Am.one, Bool.and_true, Bool.true_and, Bool.and_self, List.set_cons_zero, List.set_cons_succ, st4, st3, st9, st23, st26, st29, zcQ, st57, zaE, zcr, zcs, zct, zbA, zcu, List.append_nil, if_true, ↓za6, za7, zaz, hcq, hva, qP.lay, za4, ↓zcA, zcv, zbN, zeJ, zdS])
            refine zdE d who ⟨other, bts⟩ _ _ _ _ _ _ _ _ ((hsp.ext z).lay _ _) hone ((hd.mono z.inc).lay _ _).k hps hcl b3 (by show bts.size ≤ _; omega) _ (fun h' x => ?_)
            rw [hkn]
            ((skip); replace z := z.overW x (by (try simp only [lsz]); omega); (try replace qP := qP.over x); (try replace qR := qR.over x); rw [zaa h'])
            simp -implicitDefEqProofs only [syms, symx, seval, c5]
            (with_reducible_and_instances apply zaj); (· rfl)
            simp -implicitDefEqProofs only [syms, symx, seval, c5, Bool.not_false]
            exact hk _ (z.upW _ _ (by omega))
        · have hme : ((m : Int) != 3) = true := by simp; omega
          rw [decide_eq_true (show m ≠ 3 from hm3)]
          repeat' ( simp -implicitDefEqProofs only [syms, symx, seval, c5, qR.lay, hc0, hme, zyh])
          refine zd6 bts (by omega) _ _ (fun k a hr h' x => ?_) (fun hr h' c hc x => ?_)
          · ((skip); replace z := z.overW x (by (try simp only [lsz]); omega); (try replace qP := qP.over x); (try replace qR := qR.over x); rw [zaa h'])
            repeat' ( simp -implicitDefEqProofs only [syms, symx, seval, c5, za2, zax, List.all_cons, List.all_nil, Am.one, Bool.and_true, Bool.true_and, Bool.and_self, List.set_cons_zero, List.set_cons_succ, st4, st3, st9, st23, st26, st29, zcQ, st57, zaE, zcr, zcs, zct, zbA, zcu, List.append_nil, if_true, ↓za6, za7, zaz, beq_self_eq_true])
            exact hk _ (z.upW _ _ (by omega))
          · have hkn := zdO (d := d) (who := who) (s := ⟨other, bts⟩) hno hr
            have hcq : (c == 0) = false := by simpa using hc
            ((skip); replace z := z.overW x (by (try simp only [lsz]); omega); (try replace qP := qP.over x); (try replace qR := qR.over x); rw [zaa h'])
            repeat' ( simp -implicitDefEqProofs only [syms, symx, seval, c5, za2, zax, List.all_cons, List.all_nil, Am.one, Bool.and_true, Bool.true_and, Bool.and_self, List.set_cons_zero, List.set_cons_succ, st4, st3, st9, st23, st26, st29, zcQ, st57, zaE, zcr, zcs, zct, zbA, zcu, List.append_nil, if_true, ↓za6, za7, zaz, hcq, hva, qP.lay, za4, ↓zcA, zcv, zbN, zeJ, zdS])
            refine zdE d who ⟨other, bts⟩ _ _ _ _ _ _ _ _ ((hsp.ext z).lay _ _) hone ((hd.mono z.inc).lay _ _).k hps hcl b3 (by show bts.size ≤ _; omega) _ (fun h' x => ?_)
            rw [hkn]
            ((skip); replace z := z.overW x (by (try simp only [lsz]); omega); (try replace qP := qP.over x); (try replace qR := qR.over x); rw [zaa h'])
            simp -implicitDefEqProofs only [syms, symx, seval, c5]
            (with_reducible_and_instances apply zaj); (· rfl)
            simp -implicitDefEqProofs only [syms, symx, seval, c5, Bool.not_false]
            exact hk _ (z.upW _ _ (by omega))
    · repeat' ( simp -implicitDefEqProofs only [syms, symx, seval, c5, hva])
      refine zd6 bts (by omega) _ _ (fun k a hr h' x => ?_) (fun hr h' c hc x => ?_)
      · ((skip); replace z := z.overW x (by (try simp only [lsz]); omega); (try replace qP := qP.over x); (try replace qR := qR.over x); rw [zaa h'])
        repeat' ( simp -implicitDefEqProofs only [syms, symx, seval, c5, za2, zax, List.all_cons, List.all_nil, Am.one, Bool.and_true, Bool.true_and, Bool.and_self, List.set_cons_zero, List.set_cons_succ, st4, st3, st9, st23, st26, st29, zcQ, st57, zaE, zcr, zcs, zct, zbA, zcu, List.append_nil, if_true, ↓za6, za7, zaz, beq_self_eq_true])
        exact hk _ (z.upW _ _ (by omega))
      · have hkn := zdO (d := d) (who := who) (s := ⟨other, bts⟩) hno hr
        have hcq : (c == 0) = false := by simpa using hc
        ((skip); replace z := z.overW x (by (try simp only [lsz]); omega); (try replace qP := qP.over x); (try replace qR := qR.over x); rw [zaa h'])
        repeat' ( simp -implicitDefEqProofs only [syms, symx, seval, c5, za2, zax, List.all_cons, List.all_nil, Am.one, Bool.and_true, Bool.true_and, Bool.and_self, List.set_cons_zero, List.set_cons_succ, st4, st3, st9, st23, st26, st29, zcQ, st57, zaE, zcr, zcs, zct, zbA, zcu, List.append_nil, if_true, ↓za6, za7, zaz, hcq, hva, qP.lay, za4, ↓zcA, zcv, zbN, zeJ, zdS])
        refine zdE d who ⟨other, bts⟩ _ _ _ _ _ _ _ _ ((hsp.ext z).lay _ _) hone ((hd.mono z.inc).lay _ _).k hps hcl b3 (by show bts.size ≤ _; omega) _ (fun h' x => ?_)
        rw [hkn]
        ((skip); replace z := z.overW x (by (try simp only [lsz]); omega); (try replace qP := qP.over x); (try replace qR := qR.over x); rw [zaa h'])
        simp -implicitDefEqProofs only [syms, symx, seval, c5]
        (with_reducible_and_instances apply zaj); (· rfl)
        simp -implicitDefEqProofs only [syms, symx, seval, c5, Bool.not_false]
        exact hk _ (z.upW _ _ (by omega))
end Go.Proofs.YtemapihoobmonaaGreatDoor
