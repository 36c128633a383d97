/- Walks: requests read, by the document. Written out by fill2.py. No condition. -/
import Derived.Test.YtemapihoobmonaaGreatDoorZN12
import Derived.Test.YtemapihoobmonaaGreatDoorG40
namespace Go.Proofs.YtemapihoobmonaaGreatDoor
open Go.Am
set_option linter.unusedSimpArgs false
set_option linter.unusedVariables false
set_option maxRecDepth 100000
set_option maxHeartbeats 0
theorem zyC (s : ByteArray) : zbX tab 123 [(0, .string s)] = some (.agg ⟨[.string s, .int .i64 0, .int .i64 0]⟩) := by kernel_rfl
theorem zqn (k : Int) (a : AtomD) (h : Heap) (K : Value → Heap → Prop)
    (h1k : 1 ≤ k → k ≤ 3 → ValidX a → ∀ h', Ext h h' → K (.bool true) h') (h0k : ¬ (1 ≤ k ∧ k ≤ 3 ∧ ValidX a) → ∀ h', Ext h h' → K (.bool false) h') : Ok Tryz.prog tab ov 72 [zcT k a] h K := by
  rw [zaa h]
  have z := Ext.refl h
  unfold zcT zaO AtomD.cells
  refine Ok.into rfl zvH (zaD N72) rfl (m := 16) rfl ?_
  simp -implicitDefEqProofs only [syms, symx, seval, c72]
  refine zau (fun h1 => ?_) (fun h1 => ?_)
  · simp -implicitDefEqProofs only [syms, symx, seval, c72]
    refine zau (fun h2 => ?_) (fun h2 => ?_)
    · simp -implicitDefEqProofs only [syms, symx, seval, c72]
      refine znj a _ _ (fun hv h' x => ?_) (fun hv c h' hc x => ?_)
      · ((skip); replace z := z.overW x (by (try simp only [lsz]); omega); rw [zaa h'])
        simp -implicitDefEqProofs only [syms, symx, seval, c72, beq_self_eq_true]
        exact h1k (by omega) (by omega) hv _ (z.upW _ _ (by omega))
      · ((skip); replace z := z.overW x (by (try simp only [lsz]); omega); rw [zaa h'])
        simp -implicitDefEqProofs only [syms, symx, seval, c72, show (c == 0) = false by simpa using hc]
        exact h0k (fun g => hv g.2.2) _ (z.upW _ _ (by omega))
    · simp -implicitDefEqProofs only [syms, symx, seval, c72]
      exact h0k (fun g => h2 (by omega)) _ (z.upW _ _ (by omega))
  · simp -implicitDefEqProofs only [syms, symx, seval, c72]
    exact h0k (fun g => h1 (by omega)) _ (z.upW _ _ (by omega))
theorem zi0 (s : ByteArray) (hs : s.size ≤ 100000) (h : Heap) (K : Value → Heap → Prop)
    (h1k : ∀ (k : Nat) (a : AtomD), reqO s = some (k, a) → ∀ h', Ext h h' → K (.tuple #[zcT k a, .int .i64 0]) h')
    (h0k : reqO s = none → ∀ h' c, c ≠ 0 → Ext h h' → K (.tuple #[zcT 0 noAtomD, .int .i64 c]) h') : Ok Tryz.prog tab ov 28 [.string s] h K := by
  rw [zaa h]
  have z := Ext.refl h
  have hva : ∀ (s : ByteArray) (h : Heap) (K : Value → Heap → Prop), valE (some (.string s)) h K = K (.string s) h := fun _ _ _ => rfl
  have hvg : ∀ (c : List Value) (h : Heap) (K : Value → Heap → Prop), valE (some (.agg ⟨c⟩)) h K = K (.agg ⟨c⟩) h := fun _ _ _ => rfl
  refine Ok.into rfl zuT (zaD N28) rfl (m := 39) rfl ?_
  simp -implicitDefEqProofs only [syms, symx, seval, c28, hva]
  refine zau (fun hgt => ?_) (fun hgt => ?_)
  · repeat' ( simp -implicitDefEqProofs only [syms, symx, seval, c28, zdC, zbc, zaE, List.all_cons, List.all_nil, Am.one, Bool.and_true, Bool.true_and, Bool.and_self, List.set_cons_zero, List.set_cons_succ, st4, st3, st9, st23, st26, st29, zdE, st57, zaS, zdu, zdv, zdo, zcr, zdp, List.append_nil, if_true, ↓zbw, zbv, zaI, zhq])
    exact h0k (by unfold reqO; rw [if_neg (by omega)]) _ 4 (by decide) (z.upW _ _ (by omega))
  repeat' ( simp -implicitDefEqProofs only [syms, symx, seval, c28, hva, hvg, zyC])
  refine zjC s hs (some 0) (h.size + 1) h _ (z.upW _ _ (by omega)) (by omega) (.at (Nat.zero_le _) ⟨by rw [zad]; simp, by rw [zaW]; rfl⟩) _ (fun h2 z2 s2 q2 => ?_)
  have qD : Holds h2 (h.size + 0) (.row (zaO 0 noAtomD) 57 false) := Holds.sm (h := h.lay _ _) ⟨by rw [zad]; simp, by rw [zaW]; rfl⟩ s2 (by omega)
  obtain ⟨C, hC⟩ : ∃ C, C = h.size + 1 := ⟨_, rfl⟩
  obtain ⟨D, hD⟩ : ∃ D, D = h.size + 0 := ⟨_, rfl⟩
  rw [← hC] at q2 ⊢
  rw [← hD] at qD ⊢
  have hDC : D ≠ C := by omega
  clear z
  have z := z2
  rw [Option.bind_some] at q2 ⊢
  rw [zaa h2]
  by_cases hpos : 0 < s.size
  · have hby : zmS s 0 = some (zaL s 0, 1) := if_pos hpos
    have hbl := zdt s 0
    rw [hby] at q2 ⊢
    replace q2 : CurR 123 h2 C s (some 1) := q2
    show KOps _ _ _ _ _ _ _ _ (.int .u8 ((zaL s 0 : Nat) : Int)) _
    simp -implicitDefEqProofs only [syms, symx, seval, c28]
    rw [zbr rfl rfl rfl (zha _) rfl, zai (by omega) (by omega)]
    simp -implicitDefEqProofs only [syms, symx, seval, c28]
    refine zjT s hs (some 1) C h _ (z.upW _ _ (by omega)) (by omega) (q2.lay _ _) _ (fun a o2 ha h3 z3 s3 q3 => ?_) (fun ha h3 z3 s3 q3 => ?_)
    all_goals rw [Option.bind_some] at ha
    · have hrq : reqO s = if o2 = s.size ∧ 1 ≤ zaL s 0 ∧ zaL s 0 ≤ 3 then some (zaL s 0, a) else none := by
        unfold reqO
        rw [if_pos (by omega), ha]
        rfl
      have hav := (zlh (by omega) ha).2
      obtain ⟨ho3, qq⟩ := q3.get_some
      replace qD := qD.smL s3 hDC
      clear z
      have z := z3
      have hz3 := z.size
      have hqq := qq.lt
      rw [zaa h3]
      simp -implicitDefEqProofs only [syms, symx, seval, c28, zbc, zaE, List.all_cons, List.all_nil, Am.one, Bool.and_true, Bool.true_and, Bool.and_self, List.set_cons_zero, List.set_cons_succ, st4, st3, st9, st23, st26, st29, zdE, st57, zaS, zdu, zdv, zdo, zcr, zdp, List.append_nil, if_true, ↓zbw, zbv, zaI, zhq, qq.lay, bne_self_eq_false, hva]
      refine zgE (fun hne => ?_) (fun heq => ?_)
      · repeat' ( simp -implicitDefEqProofs only [syms, symx, seval, c28, zdC, zaI])
        refine zac (o := 0) qD sz57 (zaS _ _) rfl (Nat.le_refl 12) rfl (fun h9 qD' c => ?_)
        replace qD' : Holds h9 D (.row (zaO 0 noAtomD) 57 false) := qD'
        replace z := z.stepW c (by omega) (by omega)
        rw [zaa h9]
        simp -implicitDefEqProofs only [syms, symx, seval, c28, qD'.lay, ↓zbw, zbv, zaI]
        exact h0k (by rw [hrq, if_neg (fun g => hne (by omega))]) _ 15 (by decide) (z.upW _ _ (by omega))
      · repeat' ( simp -implicitDefEqProofs only [syms, symx, seval, c28, ↓zbw, zbv, zaI])
        refine zqn _ _ _ _ (fun g1 g2 g3 h' x => ?_) (fun g h' x => ?_)
        · have qX := Holds.top (i := 0) x rfl
          ((skip); replace z := z.overW x (by (try simp only [lsz]); omega); (try replace qD := qD.over x); rw [zaa h'])
          simp -implicitDefEqProofs only [syms, symx, seval, c28, Bool.not_true]
          (with_reducible_and_instances apply zal); (· rfl)
          repeat' ( simp -implicitDefEqProofs only [syms, symx, seval, c28, Bool.not_true, qX.lay, ↓zbw, zbv, zaI])
          refine zac (o := 0) qD sz57 (zaS _ _) rfl (Nat.le_refl 12) rfl (fun h9 qD' c => ?_)
          replace qD' : Holds h9 D (.row (zaO (zaL s 0) a) 57 false) := qD'
          replace z := z.stepW c (by omega) (by omega)
          rw [zaa h9]
          simp -implicitDefEqProofs only [syms, symx, seval, c28, qD'.lay, ↓zbw, zbv, zaI]
          exact h1k _ _ (by rw [hrq, if_pos (by omega)]) _ (z.upW _ _ (by omega))
        · ((skip); replace z := z.overW x (by (try simp only [lsz]); omega); (try replace qD := qD.over x); rw [zaa h'])
          simp -implicitDefEqProofs only [syms, symx, seval, c28, Bool.not_false]
          (with_reducible_and_instances apply zal); (· rfl)
          repeat' ( simp -implicitDefEqProofs only [syms, symx, seval, c28, Bool.not_false, zdC, zaI])
          refine zac (o := 0) qD sz57 (zaS _ _) rfl (Nat.le_refl 12) rfl (fun h9 qD' c => ?_)
          replace qD' : Holds h9 D (.row (zaO 0 noAtomD) 57 false) := qD'
          replace z := z.stepW c (by omega) (by omega)
          rw [zaa h9]
          simp -implicitDefEqProofs only [syms, symx, seval, c28, qD'.lay, ↓zbw, zbv, zaI]
          exact h0k (by rw [hrq, if_neg (fun g4 => g ⟨by omega, by omega, hav⟩)]) _ 15 (by decide) (z.upW _ _ (by omega))
    · have hrq : reqO s = none := by
        unfold reqO
        rw [if_pos (by omega), ha]
        rfl
      obtain ⟨o3, e3, ho3, he3, qq⟩ := q3.get_none
      have hne3 : (e3 != 0) = true := by simpa using he3
      replace qD := qD.smL s3 hDC
      clear z
      have z := z3
      have hz3 := z.size
      have hqq := qq.lt
      rw [zaa h3]
      repeat' ( simp -implicitDefEqProofs only [syms, symx, seval, c28, zbc, zaE, List.all_cons, List.all_nil, Am.one, Bool.and_true, Bool.true_and, Bool.and_self, List.set_cons_zero, List.set_cons_succ, st4, st3, st9, st23, st26, st29, zdE, st57, zaS, zdu, zdv, zdo, zcr, zdp, List.append_nil, if_true, ↓zbw, zbv, zaI, zhq, qq.lay, hne3, zdC, zaI])
      refine zac (o := 0) qD sz57 (zaS _ _) rfl (Nat.le_refl 12) rfl (fun h9 qD' c => ?_)
      replace qD' : Holds h9 D (.row (zaO 0 noAtomD) 57 false) := qD'
      replace z := z.stepW c (by omega) (by omega)
      rw [zaa h9]
      simp -implicitDefEqProofs only [syms, symx, seval, c28, qD'.lay, ↓zbw, zbv, zaI]
      exact h0k hrq _ 15 (by decide) (z.upW _ _ (by omega))
  · have hrq : reqO s = none := by
      unfold reqO
      rw [if_neg (by omega)]
    have hby : zmS s 0 = none := if_neg hpos
    rw [hby] at q2 ⊢
    replace q2 : CurR 123 h2 C s none := q2
    show KOps _ _ _ _ _ _ _ _ (.int .u8 ((0 : Nat) : Int)) _
    simp -implicitDefEqProofs only [syms, symx, seval, c28]
    rw [zbr rfl rfl rfl (zha _) rfl, zai (by omega) (by omega)]
    simp -implicitDefEqProofs only [syms, symx, seval, c28]
    refine zjT s hs none C h _ (z.upW _ _ (by omega)) (by omega) (q2.lay _ _) _ (fun a o2 ha => by cases ha) (fun _ h3 z3 s3 q3 => ?_)
    obtain ⟨o3, e3, ho3, he3, qq⟩ := q3.get_none
    have hne3 : (e3 != 0) = true := by simpa using he3
    replace qD := qD.smL s3 hDC
    clear z
    have z := z3
    have hz3 := z.size
    have hqq := qq.lt
    rw [zaa h3]
    repeat' ( simp -implicitDefEqProofs only [syms, symx, seval, c28, zbc, zaE, List.all_cons, List.all_nil, Am.one, Bool.and_true, Bool.true_and, Bool.and_self, List.set_cons_zero, List.set_cons_succ, st4, st3, st9, st23, st26, st29, zdE, st57, zaS, zdu, zdv, zdo, zcr, zdp, List.append_nil, if_true, ↓zbw, zbv, zaI, zhq, qq.lay, hne3, zdC, zaI])
    refine zac (o := 0) qD sz57 (zaS _ _) rfl (Nat.le_refl 12) rfl (fun h9 qD' c => ?_)
    replace qD' : Holds h9 D (.row (zaO 0 noAtomD) 57 false) := qD'
    replace z := z.stepW c (by omega) (by omega)
    rw [zaa h9]
    simp -implicitDefEqProofs only [syms, symx, seval, c28, qD'.lay, ↓zbw, zbv, zaI]
    exact h0k hrq _ 15 (by decide) (z.upW _ _ (by omega))
end Go.Proofs.YtemapihoobmonaaGreatDoor
