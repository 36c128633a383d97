/- Walks: ground atoms, variables, clauses and facts that may be, by the document. Written out by fill2.py. No condition. -/
import Derived.Test.YtemapihoobmonaaGreatDoorG42
import Derived.Test.YtemapihoobmonaaGreatDoorG43
import Derived.Test.YtemapihoobmonaaGreatDoorG33
import Derived.Test.YtemapihoobmonaaGreatDoorG31
namespace Go.Proofs.YtemapihoobmonaaGreatDoor
open Go.Am
set_option linter.unusedSimpArgs false
set_option linter.unusedVariables false
set_option maxRecDepth 100000
set_option maxHeartbeats 0
theorem zjg (a : AtomD) (i : Nat) (hi : i < 4) : a.cells[3 + i * 2 + 0]? = some (.bool (a.arg i).v) := by
  have : i = 0 ∨ i = 1 ∨ i = 2 ∨ i = 3 := by omega
  rcases this with rfl | rfl | rfl | rfl <;> rfl
theorem zpV (a : AtomD) (i : Nat) (hi : i < 4) : a.cells[3 + i * 2 + 1]? = some (.string (a.arg i).s) := by
  have : i = 0 ∨ i = 1 ∨ i = 2 ∨ i = 3 := by omega
  rcases this with rfl | rfl | rfl | rfl <;> rfl
theorem zzC : binA Tryz.prog tab .eql 4 (.bool true) (.bool true) = some (.bool true) := by kernel_rfl
theorem zyZ : binA Tryz.prog tab .eql 4 (.bool true) (.bool false) = some (.bool false) := by kernel_rfl
theorem zyY : binA Tryz.prog tab .eql 4 (.bool false) (.bool true) = some (.bool false) := by kernel_rfl
theorem zyT : binA Tryz.prog tab .eql 4 (.bool false) (.bool false) = some (.bool true) := by kernel_rfl
theorem zou (a : AtomD) (u : Value) : cut (a.cells ++ [u]) 0 11 = some a.cells := rfl
theorem ztz (a : AtomD) (u : Value) : cut (a.cells ++ [u]) 0 12 = some (a.cells ++ [u]) := rfl
theorem zeg (a : AtomD) (u : Value) : (a.cells ++ [u])[11]? = some u := rfl
theorem zqu (a : AtomD) (h : Heap) (K : Value → Heap → Prop) (hk : ∀ h', Ext h h' → K (.bool a.ground) h') : Ok Tryz.prog tab ov 62 [a.val] h K := by
  rw [zaa h]
  have z := Ext.refl h
  have hcn : a.cnt ≤ 4 := by unfold AtomD.cnt; omega
  refine Ok.into rfl zu1 (zaB N62) rfl (m := 14) rfl ?_
  repeat' ( simp -implicitDefEqProofs only [syms, symx, seval, c62, zay])
  refine zf8 (fun h' x hq => ?_)
  have q0 := hq 0 _ rfl
  clear hq
  (replace z := z.overW x (by (try simp only [lsz]); omega); rw [zaa h'])
  obtain ⟨A0, hA0⟩ : ∃ A0, A0 = h.size + 0 := ⟨_, rfl⟩
  rw [← hA0] at q0
  rw [← hA0]
  obtain ⟨I1, hI1⟩ : ∃ I : Nat → Env → Heap → Prop, I = (fun n e h' => ∃ (i : Nat) (h1 : Heap), h' = h1.lay [] h1.low ∧ Ext h h1 ∧ (n = a.cnt - i ∧ i ≤ a.cnt ∧ (∀ j, j < i → (a.arg j).v = false) ∧ Holds h1 A0 (.row a.cells 26 false)) ∧ ∃ J : Nat → Value, e = (J 0 :: .pointer (some ⟨A0, 0, none⟩) :: J 2 :: .int .i64 i :: jr J 4 11 ([]))) := ⟨_, rfl⟩
  refine zas I1 _ (by rw [hI1]; exact ⟨0, _, rfl, z, ⟨rfl, by omega, fun j hj => by omega, q0⟩, junk (by kernel_rfl)⟩) ?_
  intro n e h' hin
  rw [hI1] at hin
  obtain ⟨i, h1', rfl, z, hinv, J, rfl⟩ := hin
  clear q0
  obtain ⟨rfl, hi, hall, q0⟩ := hinv
  have hw : IntKind.i64.wrap ((i : Int) + 1) = ((i + 1 : Nat) : Int) := by rw [zae (by omega) (by omega)]; omega
  simp -implicitDefEqProofs only [syms, symx, seval, c62, q0.lay, ↓zax, zau, zaj]
  refine zhh a _ _ (fun h' x => ?_)
  ((skip); replace z := z.overW x (by (try simp only [lsz]); omega); (try replace q0 := q0.over x); rw [zaa h'])
  simp -implicitDefEqProofs only [syms, symx, seval, c62]
  refine zaw (fun hlt => ?_) (fun hlt => ?_)
  rotate_left
  · have hg : a.ground = true := ground_iff.2 (fun j hj => hall j (by omega))
    rw [hg] at hk
    repeat' ( simp -implicitDefEqProofs only [syms, symx, seval, c62])
    exact hk _ (z.upW _ _ (by omega))
  have hi4 : (0 : Int) ≤ (i : Int) ∧ (i : Int) < 4 := by omega
  have hcB := zjg a i (by omega)
  obtain ⟨vb, hvb⟩ : ∃ vb, (a.arg i).v = vb := ⟨_, rfl⟩
  rw [hvb] at hcB
  cases vb
  · repeat' ( simp -implicitDefEqProofs only [syms, symx, seval, c62, q0.lay, hi4, and_self, if_true, hcB])
    rw [hw]
    have hnx : ∀ j, j < i + 1 → (a.arg j).v = false := by
      intro j hj
      by_cases hji : j < i
      · exact hall j hji
      · have : j = i := by omega
        subst this
        exact hvb
    (rw [hI1]; with_reducible refine zac (m := _) ?_ ⟨i + 1, _, rfl, z, ⟨rfl, by omega, hnx, q0⟩, junk (by kernel_rfl)⟩; omega)
  · have hg : a.ground = false := by
      cases hgg : a.ground
      · rfl
      · rw [ground_iff.1 hgg i (by omega)] at hvb
        cases hvb
    rw [hg] at hk
    repeat' ( simp -implicitDefEqProofs only [syms, symx, seval, c62, q0.lay, hi4, and_self, if_true, hcB])
    exact hk _ (z.upW _ _ (by omega))
theorem zud (a : AtomD) (h : Heap) (K : Value → Heap → Prop) (h1k : FactX a → ∀ h', Ext h h' → K (.bool true) h') (h2k : ¬ FactX a → ∀ h', Ext h h' → K (.bool false) h') : Ok Tryz.prog tab ov 53 [a.val] h K := by
  rw [zaa h]
  have z := Ext.refl h
  refine Ok.into rfl zu4 (zaB N53) rfl (m := 9) rfl ?_
  repeat' ( simp -implicitDefEqProofs only [syms, symx, seval, c53, zay, ↓zax, zau, zaj])
  refine zhZ a _ _ (fun hv h' x => ?_) (fun hv c h' hc x => ?_)
  · have q0 := Holds.top (i := 0) x rfl
    ((skip); replace z := z.overW x (by (try simp only [lsz]); omega); rw [zaa h'])
    repeat' ( simp -implicitDefEqProofs only [syms, symx, seval, c53, q0.lay, ↓zax, zau, zaj])
    refine zqu a _ _ (fun h' x => ?_)
    ((skip); replace z := z.overW x (by (try simp only [lsz]); omega); (try replace q0 := q0.over x); rw [zaa h'])
    cases hg : a.ground
    · repeat' ( simp -implicitDefEqProofs only [syms, symx, seval, c53])
      exact h2k (fun x => by rw [x.ground] at hg; cases hg) _ (z.upW _ _ (by omega))
    · repeat' ( simp -implicitDefEqProofs only [syms, symx, seval, c53])
      exact h1k ⟨hv, hg⟩ _ (z.upW _ _ (by omega))
  · ((skip); replace z := z.overW x (by (try simp only [lsz]); omega); (try replace q0 := q0.over x); rw [zaa h'])
    repeat' (first | simp -implicitDefEqProofs only [syms, symx, seval, c53] | ((with_reducible  apply zdA ) <;> intro _))
    · exact absurd (by assumption) hc
    · exact h2k (fun x => hv x.valid) _ (z.upW _ _ (by omega))
theorem zsT (a : AtomD) (bv : Bool) (h : Heap) (K : Value → Heap → Prop) (hk : ∀ w l h', Ext h h' → Sl Rep.str h' w l → l.length ≤ 4 → (∀ x, x ∈ l ↔ ∃ i : Nat, i < a.cnt ∧ (a.arg i).v = bv ∧ (a.arg i).s = x) → K w h') : Ok Tryz.prog tab ov 158 [a.val, .bool bv] h K := by
  rw [zaa h]
  have z := Ext.refl h
  have hcn : a.cnt ≤ 4 := by unfold AtomD.cnt; omega
  refine Ok.into rfl zsc (zaB N158) rfl (m := 50) rfl ?_
  repeat' ( simp -implicitDefEqProofs only [syms, symx, seval, c158, zay])
  refine zf8 (fun h' x hq => ?_)
  have q0 := hq 0 _ rfl
  clear hq
  (replace z := z.overW x (by (try simp only [lsz]); omega); rw [zaa h'])
  have hz0 := z.size
  obtain ⟨A0, hA0⟩ : ∃ A0, A0 = h.size + 0 := ⟨_, rfl⟩
  rw [← hA0] at q0
  rw [← hA0]
  have q0l := q0.lt
  obtain ⟨I1, hI1⟩ : ∃ I : Nat → Env → Heap → Prop, I = (fun n e h' => ∃ (i : Nat) (wv : Value) (A : Nat) (l : List ByteArray) (h1 : Heap), h' = h1.lay [] h1.low ∧ Ext h h1 ∧ (n = a.cnt - i ∧ i ≤ a.cnt ∧ l.length ≤ i ∧ (∀ x, x ∈ l ↔ ∃ j : Nat, j < i ∧ (a.arg j).v = bv ∧ (a.arg j).s = x) ∧ Ow Rep.str h h1 9 A wv l ∧ A ≠ A0 ∧ Holds h1 A0 (.row a.cells 26 false)) ∧ ∃ J : Nat → Value, e = (J 0 :: .bool bv :: .pointer (some ⟨A0, 0, none⟩) :: jr J 3 2 (wv :: .int .i64 i :: jr J 7 45 ([])))) := ⟨_, rfl⟩
  refine zas I1 _ (by rw [hI1]; exact ⟨0, .slice none 0 0, A0 + 1, [], _, rfl, z, ⟨rfl, by omega, by simp, by simp, Ow.nil (by omega), by omega, q0⟩, junk (by kernel_rfl)⟩) ?_
  intro n e h' hin
  rw [hI1] at hin
  obtain ⟨i, wv, A, l, h1', rfl, z, hinv, J, rfl⟩ := hin
  clear q0
  obtain ⟨rfl, hi, hll, hmem, ow, hAA, q0⟩ := hinv
  have hw : IntKind.i64.wrap ((i : Int) + 1) = ((i + 1 : Nat) : Int) := by rw [zae (by omega) (by omega)]; omega
  have hvw := zaH wv
  simp -implicitDefEqProofs only [syms, symx, seval, c158, q0.lay, ↓zax, zau, zaj]
  refine zhh a _ _ (fun h' x => ?_)
  (( skip); replace z := z.overW x (by (try simp only [lsz]); omega); (try replace q0 := q0.over x); (try replace ow := ow.over x); rw [zaa h'])
  simp -implicitDefEqProofs only [syms, symx, seval, c158]
  refine zaw (fun hlt => ?_) (fun hlt => ?_)
  rotate_left
  · have he : i = a.cnt := by omega
    rw [he] at hmem
    repeat' ( simp -implicitDefEqProofs only [syms, symx, seval, c158, hvw])
    exact hk _ _ _ (z.upW _ _ (by omega)) ((ow.sl (by decide)).lay _ _) (by omega) hmem
  repeat' ( simp -implicitDefEqProofs only [syms, symx, seval, c158])
  obtain ⟨I2, hI2⟩ : ∃ I : Nat → Env → Heap → Prop, I = (fun n e h' => ∃ (k : Nat) (b : Bool) (h1 : Heap), h' = h1.lay [] h1.low ∧ Ext h h1 ∧ (n = i - k ∧ k ≤ i ∧ (b = true ↔ ∃ j : Nat, j < k ∧ a.arg j = a.arg i) ∧ Ow Rep.str h h1 9 A wv l ∧ Holds h1 A0 (.row a.cells 26 false)) ∧ ∃ J : Nat → Value, e = (J 0 :: .bool bv :: .pointer (some ⟨A0, 0, none⟩) :: jr J 3 2 (wv :: .int .i64 i :: .bool b :: .int .i64 k :: jr J 9 43 ([])))) := ⟨_, rfl⟩
  refine zas I2 _ (by rw [hI2]; exact ⟨0, false, _, rfl, z, ⟨rfl, by omega, by simp, ow, q0⟩, junk (by kernel_rfl)⟩) ?_
  intro n e h' hin
  rw [hI2] at hin
  obtain ⟨k, b, h1', rfl, z, hinv, J, rfl⟩ := hin
  clear q0 ow
  obtain ⟨rfl, hk1, hbb, ow, q0⟩ := hinv
  have hwk : IntKind.i64.wrap ((k : Int) + 1) = ((k + 1 : Nat) : Int) := by rw [zae (by omega) (by omega)]; omega
  have hi4 : (0 : Int) ≤ (i : Int) ∧ (i : Int) < 4 := by omega
  have hca := zhg a i (by omega)
  simp -implicitDefEqProofs only [syms, symx, seval, c158]
  refine zaw (fun hlt2 => ?_) (fun hlt2 => ?_)
  · have hk4 : (0 : Int) ≤ (k : Int) ∧ (k : Int) < 4 := by omega
    have hcb := zhg a k (by omega)
    have hup : (∃ j : Nat, j < k + 1 ∧ a.arg j = a.arg i) ↔ (∃ j : Nat, j < k ∧ a.arg j = a.arg i) ∨ a.arg k = a.arg i := by
      constructor
      · rintro ⟨j, hj, e⟩
        by_cases hjk : j = k
        · subst hjk
          exact .inr e
        · exact .inl ⟨j, by omega, e⟩
      · rintro (⟨j, hj, e⟩ | e)
        · exact ⟨j, by omega, e⟩
        · exact ⟨k, by omega, e⟩
    cases b
    · repeat' (first | simp -implicitDefEqProofs only [syms, symx, seval, c158, q0.lay, hi4, hk4, ↓hca, ↓hcb, zfS, zbF, and_self, if_true, zlO] | with_reducible refine zbP (by simp only [c158]) (z.upW _ _ (by omega)) ?_ | ((with_reducible  apply zaw ) <;> intro _) | ((with_reducible refine ⟨z.grw.lay _ _, ?_⟩); (intro _ h' zz x _); (try simp only [zap, List.append_nil] at x); (try replace q0 := q0.over x); (try replace ow := ow.over x); (replace z := zz); (clear zz); rw [zaa h']))
      all_goals rw [hwk]
      · have hbn : (true = true ↔ ∃ j : Nat, j < k + 1 ∧ a.arg j = a.arg i) := by rw [hup]; exact ⟨fun _ => .inr (by assumption), fun _ => rfl⟩
        (rw [hI2]; with_reducible refine zac (m := _) ?_ ⟨k + 1, true, _, rfl, z, ⟨rfl, by omega, hbn, ow, q0⟩, junk (by kernel_rfl)⟩; omega)
      · have hbn : (false = true ↔ ∃ j : Nat, j < k + 1 ∧ a.arg j = a.arg i) := by
          rw [hup, ← hbb]
          exact ⟨fun e => .inl e, fun e => e.elim id (fun e => absurd e (by assumption))⟩
        (rw [hI2]; with_reducible refine zac (m := _) ?_ ⟨k + 1, false, _, rfl, z, ⟨rfl, by omega, hbn, ow, q0⟩, junk (by kernel_rfl)⟩; omega)
    · repeat' (first | simp -implicitDefEqProofs only [syms, symx, seval, c158, q0.lay, hi4, hk4, ↓hca, ↓hcb, zfS, zbF, and_self, if_true] | with_reducible refine zbP (by simp only [c158]) (z.upW _ _ (by omega)) ?_ | ((with_reducible refine ⟨z.grw.lay _ _, ?_⟩); (intro _ h' zz x _); (try simp only [zap, List.append_nil] at x); (try replace q0 := q0.over x); (try replace ow := ow.over x); (replace z := zz); (clear zz); rw [zaa h']))
      rw [hwk]
      have hbn : (true = true ↔ ∃ j : Nat, j < k + 1 ∧ a.arg j = a.arg i) := by rw [hup]; exact ⟨fun e => .inl (hbb.1 e), fun _ => rfl⟩
      (rw [hI2]; with_reducible refine zac (m := _) ?_ ⟨k + 1, true, _, rfl, z, ⟨rfl, by omega, hbn, ow, q0⟩, junk (by kernel_rfl)⟩; omega)
  have hki : k = i := by omega
  have hcB := zjg a i (by omega)
  have hcS := zpV a i (by omega)
  have hws : IntKind.i64.wrap ((i : Int) + 1) = ((i + 1 : Nat) : Int) := hw
  have hup : ∀ x, (∃ j : Nat, j < i + 1 ∧ (a.arg j).v = bv ∧ (a.arg j).s = x) ↔ (∃ j : Nat, j < i ∧ (a.arg j).v = bv ∧ (a.arg j).s = x) ∨ ((a.arg i).v = bv ∧ (a.arg i).s = x) := by
    intro x
    constructor
    · rintro ⟨j, hj, e⟩
      by_cases hjk : j = i
      · subst hjk
        exact .inr e
      · exact .inl ⟨j, by omega, e⟩
    · rintro (⟨j, hj, e⟩ | e)
      · exact ⟨j, by omega, e⟩
      · exact ⟨i, by omega, e⟩
  have hskip : (b = true ∨ ¬ (a.arg i).v = bv) → ∀ x, x ∈ l ↔ ∃ j : Nat, j < i + 1 ∧ (a.arg j).v = bv ∧ (a.arg j).s = x := by
    intro hs x
    rw [hup, ← hmem]
    refine ⟨.inl, fun e => e.elim id (fun e => ?_)⟩
    rcases hs with hs | hs
    · obtain ⟨j, hj, ej⟩ := hbb.1 hs
      rw [hmem]
      exact ⟨j, by omega, by rw [ej]; exact e⟩
    · exact absurd e.1 hs
  have htake : (a.arg i).v = bv → ∀ x, x ∈ l ++ [(a.arg i).s] ↔ ∃ j : Nat, j < i + 1 ∧ (a.arg j).v = bv ∧ (a.arg j).s = x := by
    intro hs x
    rw [hup, ← hmem, List.mem_append, List.mem_singleton]
    exact ⟨fun e => e.imp id (fun e => ⟨hs, e.symm⟩), fun e => e.imp id (fun e => e.2.symm)⟩
  obtain ⟨vb, hvb⟩ : ∃ vb, (a.arg i).v = vb := ⟨_, rfl⟩
  rw [hvb] at hcB hskip htake
  have hvbE : ∀ (h : Heap) (K : Value → Heap → Prop), valE (some (.bool vb)) h K = K (.bool vb) h := fun _ _ => rfl
  cases vb
  all_goals
    cases bv
    all_goals
      cases b
      all_goals
        repeat' (first | simp -implicitDefEqProofs only [syms, symx, seval, c158, q0.lay, hi4, and_self, if_true, hcB, hcS, hvw, zzC, zyZ, zyY, zyT, Bool.not_false, Bool.not_true] | ((with_reducible_and_instances apply zaf); (· rfl)))
  all_goals first
    | (rw [hw]
       have hsk := hskip (by simp)
       (rw [hI1]; with_reducible refine zac (m := _) ?_ ⟨i + 1, wv, A, l, _, rfl, z, ⟨rfl, by omega, by omega, hsk, ow, hAA, q0⟩, junk (by kernel_rfl)⟩; omega))
    | skip
  all_goals
    simp -implicitDefEqProofs only [syms, symx, seval, c158, za2, zw2]
    have htk := htake rfl
    have hHs : (h1'.lay [Blk.row [Value.string (a.arg i).s] 9 false] h1'.low).size = h1'.size + 1 := by rw [zad]; rfl
    obtain ⟨hs1, hsr⟩ := zdn (r := Rep.str) (A := A) (c := 1) (y := (a.arg i).s) (by decide) (show (h1'.lay [Blk.row [Value.string (a.arg i).s] 9 false] h1'.low).get (h1'.size + 0) = some (.row [Value.string (a.arg i).s] 9 false) by rw [zaR]; rfl) rfl
    have hz := z.size
    obtain ⟨w', h2, A', e1, e2, e3, e4, e5⟩ := zdz (t := 49) ds49 zf0 rfl (by decide) (by rw [hHs]; omega) (ow.mono (Inc.lay _ _ _)) hs1 hsr (by omega) (by omega)
    have hfA := ow.fresh
    have q0l := q0.lt
    rw [hHs] at e4
    replace z := (z.upW [Blk.row [Value.string (a.arg i).s] 9 false] h1'.low (by omega)).step e3 hfA
    clear hup hbb hki
    have q1 := q0.stepL e3 (by first | exact hAA | exact Ne.symm hAA)
    rw [e1, zaa h2]
    clear q0 ow
  all_goals
    repeat' ( simp -implicitDefEqProofs only [syms, symx, seval, c158])
    rw [hw]
    (rw [hI1]; with_reducible refine zac (m := _) ?_ ⟨i + 1, w', A', l ++ [(a.arg i).s], _, rfl, z, ⟨rfl, by omega, by rw [List.length_append, List.length_singleton]; omega, htk, e2, by omega, q1⟩, junk (by kernel_rfl)⟩; omega)
theorem zpa (a : AtomD) (h : Heap) (K : Value → Heap → Prop) (hk : ∀ w l h', Ext h h' → Sl Rep.str h' w l → l.length ≤ 4 → (∀ x, x ∈ l ↔ zc7 a x) → K w h') : Ok Tryz.prog tab ov 123 [a.val] h K := by
  rw [zaa h]
  have z := Ext.refl h
  refine Ok.into rfl ztc (zaB N123) rfl (m := 4) rfl ?_
  repeat' ( simp -implicitDefEqProofs only [syms, symx, seval, c123, zay, ↓zax, zau, zaj])
  refine zsT a true _ _ (fun w l h' x s hl hm => ?_)
  ((skip); replace z := z.overW x (by (try simp only [lsz]); omega); rw [zaa h'])
  have hvw := zaH w
  repeat' ( simp -implicitDefEqProofs only [syms, symx, seval, c123, hvw])
  exact hk _ _ _ (z.upW _ _ (by omega)) (s.lay _ _) hl (fun x => (hm x).trans varIn_iff.symm)
theorem zpp (c : ClauseD) (v : Value) (h : Heap) (hl : Sl Rep.atom h v c.body) (hn : c.body.length ≤ 1000) (K : Value → Heap → Prop) (h1k : (∀ x, zc7 c.head x → ∃ b ∈ c.body, zc7 b x) → ∀ h', Ext h h' → K (.bool true) h') (h2k : ¬ (∀ x, zc7 c.head x → ∃ b ∈ c.body, zc7 b x) → ∀ h', Ext h h' → K (.bool false) h') : Ok Tryz.prog tab ov 91 [.agg ⟨c.head.cells ++ [v]⟩] h K := by
  rw [zaa h]
  have z := Ext.refl h
  have hva := zaH v
  have hlv := fun (hh : Heap) => hl.lenA ds27 hh
  refine Ok.into rfl zvB (zaB N91) rfl (m := 54) rfl ?_
  repeat' ( simp -implicitDefEqProofs only [syms, symx, seval, c91, zay, ↓zax, ↓zou, zau, zaj, hva])
  refine zpa c.head _ _ (fun w lh h' x s hll hm => ?_)
  have q0 := Holds.top (i := 0) x rfl
  (( skip); replace z := z.overW x (by (try simp only [lsz]); omega); rw [zaa h'])
  obtain ⟨A0, hA0⟩ : ∃ A0, A0 = h.size + 0 := ⟨_, rfl⟩
  rw [← hA0] at q0
  rw [← hA0]
  have hvw := zaH w
  have hlw := fun (hh : Heap) => s.lenA ds49 hh
  repeat' ( simp -implicitDefEqProofs only [syms, symx, seval, c91, hvw])
  obtain ⟨I1, hI1⟩ : ∃ I : Nat → Env → Heap → Prop, I = (fun n e h' => ∃ (i : Nat) (h1 : Heap), h' = h1.lay [] h1.low ∧ Ext h h1 ∧ (n = lh.length - i ∧ i ≤ lh.length ∧ (∀ x ∈ lh.take i, ∃ b ∈ c.body, zc7 b x) ∧ Holds h1 A0 (.row (c.head.cells ++ [v]) 29 false) ∧ Sl Rep.str h1 w lh) ∧ ∃ J : Nat → Value, e = (J 0 :: .pointer (some ⟨A0, 0, none⟩) :: J 2 :: w :: .int .i64 i :: jr J 5 50 ([]))) := ⟨_, rfl⟩
  refine zas I1 _ (by rw [hI1]; exact ⟨0, _, rfl, z, ⟨rfl, by omega, by simp, q0, s⟩, junk (by kernel_rfl)⟩) ?_
  intro n e h' hin
  rw [hI1] at hin
  obtain ⟨i, h1', rfl, z, hinv, J, rfl⟩ := hin
  clear q0 s
  obtain ⟨rfl, hi, hall, q0, s⟩ := hinv
  have hw : IntKind.i64.wrap ((i : Int) + 1) = ((i + 1 : Nat) : Int) := by rw [zae (by omega) (by omega)]; omega
  simp -implicitDefEqProofs only [syms, symx, seval, c91, hvw, hlw]
  refine zaw (fun hlt => ?_) (fun hlt => ?_)
  rotate_left
  · rw [List.take_of_length_le (by omega)] at hall
    repeat' ( simp -implicitDefEqProofs only [syms, symx, seval, c91])
    exact h1k (fun x hx => hall x ((hm x).2 hx)) _ (z.upW _ _ (by omega))
  obtain ⟨x0, hx0, hx0'⟩ := za5 (l := lh) (i := i) (by omega)
  have hxh : zc7 c.head x0 := (hm x0).1 (List.mem_of_getElem? hx0')
  repeat' ( simp -implicitDefEqProofs only [syms, symx, seval, c91])
  obtain ⟨I2, hI2⟩ : ∃ I : Nat → Env → Heap → Prop, I = (fun n e h' => ∃ (k : Nat) (b : Bool) (h1 : Heap), h' = h1.lay [] h1.low ∧ Ext h h1 ∧ (n = c.body.length - k ∧ k ≤ c.body.length ∧ (b = true ↔ ∃ y ∈ c.body.take k, zc7 y x0) ∧ Holds h1 A0 (.row (c.head.cells ++ [v]) 29 false) ∧ Sl Rep.str h1 w lh) ∧ ∃ J : Nat → Value, e = (J 0 :: .pointer (some ⟨A0, 0, none⟩) :: J 2 :: w :: .int .i64 i :: .bool b :: .int .i64 k :: jr J 7 48 ([]))) := ⟨_, rfl⟩
  refine zas I2 _ (by rw [hI2]; exact ⟨0, false, _, rfl, z, ⟨rfl, by omega, by simp, q0, s⟩, junk (by kernel_rfl)⟩) ?_
  intro n e h' hin
  rw [hI2] at hin
  obtain ⟨k, b, h1', rfl, z, hinv, J, rfl⟩ := hin
  clear q0 s
  obtain ⟨rfl, hk1, hbb, q0, s⟩ := hinv
  have hwk : IntKind.i64.wrap ((k : Int) + 1) = ((k + 1 : Nat) : Int) := by rw [zae (by omega) (by omega)]; omega
  cases b
  rotate_left
  · have hall2 : ∀ x ∈ lh.take (i + 1), ∃ b ∈ c.body, zc7 b x := zbp (i := i) (P := fun x => ∃ b ∈ c.body, zc7 b x) hx0' hall (by
      obtain ⟨y, hy, e⟩ := hbb.1 rfl
      exact ⟨y, List.mem_of_mem_take hy, e⟩)
    simp -implicitDefEqProofs only [syms, symx, seval, c91, q0.lay, zeg, hva, hlv]
    refine zaw (fun hlt2 => ?_) (fun hlt2 => ?_)
    all_goals
      repeat' (first | simp -implicitDefEqProofs only [syms, symx, seval, c91, Bool.not_true] | ((with_reducible_and_instances apply zaf); (· rfl)))
      rw [hw]
      (rw [hI1]; with_reducible refine zac (m := _) ?_ ⟨i + 1, _, rfl, z, ⟨rfl, by omega, hall2, q0, s⟩, junk (by kernel_rfl)⟩; omega)
  simp -implicitDefEqProofs only [syms, symx, seval, c91, q0.lay, zeg, hva, hlv]
  refine zaw (fun hlt2 => ?_) (fun hlt2 => ?_)
  rotate_left
  · rw [List.take_of_length_le (by omega)] at hbb
    repeat' (first | simp -implicitDefEqProofs only [syms, symx, seval, c91, Bool.not_false] | ((with_reducible_and_instances apply zaf); (· rfl)))
    exact h2k (fun hh => by have := hbb.2 (hh x0 hxh); cases this) _ (z.upW _ _ (by omega))
  obtain ⟨y, hy, hy'⟩ := za5 (l := c.body) (i := k) (by omega)
  repeat' (first | simp -implicitDefEqProofs only [syms, symx, seval, c91, Bool.not_false, q0.lay, zeg, hva] | with_reducible_and_instances refine zdN (hl.mono z.inc) ds27 sz26 (by omega) hy (fun p hp => ?_) | with_reducible_and_instances refine lda hp ag26 sz26 ?_ | ((with_reducible_and_instances apply zaf); (· rfl)))
  refine zpa y _ _ (fun w2 l2 h' x s2 hll2 hm2 => ?_)
  (( skip); replace z := z.overW x (by (try simp only [lsz]); omega); (try replace q0 := q0.over x); (try replace s := s.over x); rw [zaa h'])
  have hvw2 := zaH w2
  have hlw2 := fun (hh : Heap) => s2.lenA ds49 hh
  repeat' ( simp -implicitDefEqProofs only [syms, symx, seval, c91, hvw2])
  obtain ⟨I3, hI3⟩ : ∃ I : Nat → Env → Heap → Prop, I = (fun n e h' => ∃ (d : Nat) (b : Bool) (h1 : Heap), h' = h1.lay [] h1.low ∧ Ext h h1 ∧ (n = l2.length - d ∧ d ≤ l2.length ∧ (b = true ↔ x0 ∈ l2.take d) ∧ Holds h1 A0 (.row (c.head.cells ++ [v]) 29 false) ∧ Sl Rep.str h1 w lh ∧ Sl Rep.str h1 w2 l2) ∧ ∃ J : Nat → Value, e = (J 0 :: .pointer (some ⟨A0, 0, none⟩) :: J 2 :: w :: .int .i64 i :: .bool b :: .int .i64 k :: w2 :: .int .i64 d :: jr J 9 46 ([]))) := ⟨_, rfl⟩
  refine zas I3 _ (by rw [hI3]; exact ⟨0, false, _, rfl, z, ⟨rfl, by omega, by simp, q0, s, s2⟩, junk (by kernel_rfl)⟩) ?_
  intro n e h' hin
  rw [hI3] at hin
  obtain ⟨d, b, h1', rfl, z, hinv, J, rfl⟩ := hin
  clear q0 s s2
  obtain ⟨rfl, he1, hb3, q0, s, s2⟩ := hinv
  have hwe : IntKind.i64.wrap ((d : Int) + 1) = ((d + 1 : Nat) : Int) := by rw [zae (by omega) (by omega)]; omega
  simp -implicitDefEqProofs only [syms, symx, seval, c91, hvw2, hlw2]
  refine zaw (fun hlt3 => ?_) (fun hlt3 => ?_)
  rotate_left
  · rw [List.take_of_length_le (by omega)] at hb3
    have hbn : (b = true ↔ ∃ y ∈ c.body.take (k + 1), zc7 y x0) := by
      rw [hb3, hm2, List.take_add_one, hy']
      constructor
      · intro hh
        exact ⟨y, by simp, hh⟩
      · rintro ⟨y2, hy2, hh⟩
        rcases List.mem_append.1 hy2 with hm3 | hm3
        · exact absurd (hbb.2 ⟨y2, hm3, hh⟩) (by decide)
        · obtain rfl : y2 = y := by simpa using hm3
          exact hh
    repeat' ( simp -implicitDefEqProofs only [syms, symx, seval, c91])
    rw [hwk]
    (rw [hI2]; with_reducible refine zac (m := _) ?_ ⟨k + 1, b, _, rfl, z, ⟨rfl, by omega, hbn, q0, s⟩, junk (by kernel_rfl)⟩; omega)
  obtain ⟨x1, hx1, hx1'⟩ := za5 (l := l2) (i := d) (by omega)
  have hup : x0 ∈ l2.take (d + 1) ↔ x0 ∈ l2.take d ∨ x1 = x0 := by
    rw [List.take_add_one, hx1', List.mem_append]
    simp [eq_comm]
  cases b
  rotate_left
  · repeat' (first | simp -implicitDefEqProofs only [syms, symx, seval, c91] | with_reducible refine zbP (by simp only [c91]) (z.upW _ _ (by omega)) ?_ | ((with_reducible refine ⟨z.grw.lay _ _, ?_⟩); (intro _ h' zz x _); (try simp only [zap, List.append_nil] at x); (try replace q0 := q0.over x); (try replace s := s.over x); (try replace s2 := s2.over x); (replace z := zz); (clear zz); rw [zaa h']))
    rw [hwe]
    have hbn : (true = true ↔ x0 ∈ l2.take (d + 1)) := by rw [hup]; exact ⟨fun _ => .inl (hb3.1 rfl), fun _ => rfl⟩
    (rw [hI3]; with_reducible refine zac (m := _) ?_ ⟨d + 1, true, _, rfl, z, ⟨rfl, by omega, hbn, q0, s, s2⟩, junk (by kernel_rfl)⟩; omega)
  repeat' (first | simp -implicitDefEqProofs only [syms, symx, seval, c91, hvw, hvw2] | with_reducible refine zbP (by simp only [c91]) (z.upW _ _ (by omega)) ?_ | ((with_reducible  apply zaw ) <;> intro _) | with_reducible_and_instances refine zmy s2 ds49 sz9 (by omega) hx1 (fun p hp => ?_) | with_reducible_and_instances refine zmy s ds49 sz9 (by omega) hx0 (fun p hp => ?_) | with_reducible_and_instances refine zd9 hp ag9 ?_ | ((with_reducible refine ⟨z.grw.lay _ _, ?_⟩); (intro _ h' zz x _); (try simp only [zap, List.append_nil] at x); (try replace q0 := q0.over x); (try replace s := s.over x); (try replace s2 := s2.over x); (replace z := zz); (clear zz); rw [zaa h']))
  · have hbn : (true = true ↔ x0 ∈ l2.take (d + 1)) := by rw [hup]; exact ⟨fun _ => .inr (by assumption), fun _ => rfl⟩
    rw [hwe]
    (rw [hI3]; with_reducible refine zac (m := _) ?_ ⟨d + 1, true, _, rfl, z, ⟨rfl, by omega, hbn, q0, s, s2⟩, junk (by kernel_rfl)⟩; omega)
  · have hbn : (false = true ↔ x0 ∈ l2.take (d + 1)) := by
      rw [hup, ← hb3]
      exact ⟨fun e => .inl e, fun e => e.elim id (fun e => absurd e (by assumption))⟩
    rw [hwe]
    (rw [hI3]; with_reducible refine zac (m := _) ?_ ⟨d + 1, false, _, rfl, z, ⟨rfl, by omega, hbn, q0, s, s2⟩, junk (by kernel_rfl)⟩; omega)
theorem zw9 (c : ClauseD) (v : Value) (h : Heap) (hl : Sl Rep.atom h v c.body) (hn : c.body.length ≤ 1000) (K : Value → Heap → Prop) (h1k : OneX c → ∀ h', Ext h h' → K (.bool true) h') (h2k : ¬ OneX c → ∀ h', Ext h h' → K (.bool false) h') : Ok Tryz.prog tab ov 52 [.agg ⟨c.head.cells ++ [v]⟩] h K := by
  rw [zaa h]
  have z := Ext.refl h
  have hva := zaH v
  have hlv := fun (hh : Heap) => hl.lenA ds27 hh
  refine Ok.into rfl zuS (zaB N52) rfl (m := 23) rfl ?_
  repeat' ( simp -implicitDefEqProofs only [syms, symx, seval, c52, zay, ↓zax, ↓zou, zau, zaj, hva])
  refine zhZ c.head _ _ (fun hv h' x => ?_) (fun hv cc h' hc x => ?_)
  rotate_left
  · ((skip); replace z := z.overW x (by (try simp only [lsz]); omega); (try replace q0 := q0.over x); (try replace s := s.over x); (try replace s2 := s2.over x); rw [zaa h'])
    repeat' (first | simp -implicitDefEqProofs only [syms, symx, seval, c52] | ((with_reducible  apply zg4 ) <;> intro _))
    · exact h2k (fun x => hv x.head) _ (z.upW _ _ (by omega))
    · exact absurd (by assumption) hc
  have q0 := Holds.top (i := 0) x rfl
  ((skip); replace z := z.overW x (by (try simp only [lsz]); omega); (try replace q0 := q0.over x); (try replace s := s.over x); (try replace s2 := s2.over x); rw [zaa h'])
  obtain ⟨A0, hA0⟩ : ∃ A0, A0 = h.size + 0 := ⟨_, rfl⟩
  rw [← hA0] at q0
  rw [← hA0]
  repeat' ( simp -implicitDefEqProofs only [syms, symx, seval, c52])
  obtain ⟨I1, hI1⟩ : ∃ I : Nat → Env → Heap → Prop, I = (fun n e h' => ∃ (i : Nat) (h1 : Heap), h' = h1.lay [] h1.low ∧ Ext h h1 ∧ (n = c.body.length - i ∧ i ≤ c.body.length ∧ (∀ y ∈ c.body.take i, ValidX y) ∧ Holds h1 A0 (.row (c.head.cells ++ [v]) 29 false)) ∧ ∃ J : Nat → Value, e = (J 0 :: .pointer (some ⟨A0, 0, none⟩) :: J 2 :: .int .i64 i :: jr J 4 20 ([]))) := ⟨_, rfl⟩
  refine zas I1 _ (by rw [hI1]; exact ⟨0, _, rfl, z, ⟨rfl, by omega, by simp, q0⟩, junk (by kernel_rfl)⟩) ?_
  intro n e h' hin
  rw [hI1] at hin
  obtain ⟨i, h1', rfl, z, hinv, J, rfl⟩ := hin
  clear q0
  obtain ⟨rfl, hi, hall, q0⟩ := hinv
  have hw : IntKind.i64.wrap ((i : Int) + 1) = ((i + 1 : Nat) : Int) := by rw [zae (by omega) (by omega)]; omega
  simp -implicitDefEqProofs only [syms, symx, seval, c52, q0.lay, zeg, hva, hlv]
  refine zaw (fun hlt => ?_) (fun hlt => ?_)
  rotate_left
  · rw [List.take_of_length_le (by omega)] at hall
    repeat' ( simp -implicitDefEqProofs only [syms, symx, seval, c52, q0.lay, ↓ztz])
    refine zpp c v _ ((hl.mono z.inc).lay _ _) hn _ (fun hr h' x => ?_) (fun hr h' x => ?_)
    · ((skip); replace z := z.overW x (by (try simp only [lsz]); omega); (try replace q0 := q0.over x); rw [zaa h'])
      repeat' ( simp -implicitDefEqProofs only [syms, symx, seval, c52])
      exact h1k ⟨hv, hall, hr⟩ _ (z.upW _ _ (by omega))
    · ((skip); replace z := z.overW x (by (try simp only [lsz]); omega); (try replace q0 := q0.over x); rw [zaa h'])
      repeat' ( simp -implicitDefEqProofs only [syms, symx, seval, c52])
      exact h2k (fun x => hr x.ranged) _ (z.upW _ _ (by omega))
  obtain ⟨y, hy, hy'⟩ := za5 (l := c.body) (i := i) (by omega)
  repeat' (first | simp -implicitDefEqProofs only [syms, symx, seval, c52, q0.lay, zeg, hva] | with_reducible_and_instances refine zdN (hl.mono z.inc) ds27 sz26 (by omega) hy (fun p hp => ?_) | with_reducible_and_instances refine lda hp ag26 sz26 ?_)
  refine zhZ y _ _ (fun hv2 h' x => ?_) (fun hv2 cc h' hc x => ?_)
  · ((skip); replace z := z.overW x (by (try simp only [lsz]); omega); (try replace q0 := q0.over x); rw [zaa h'])
    repeat' ( simp -implicitDefEqProofs only [syms, symx, seval, c52])
    rw [hw]
    (rw [hI1]; with_reducible refine zac (m := _) ?_ ⟨i + 1, _, rfl, z, ⟨rfl, by omega, zbp (i := i) (P := ValidX) hy' hall hv2, q0⟩, junk (by kernel_rfl)⟩; omega)
  · ((skip); replace z := z.overW x (by (try simp only [lsz]); omega); (try replace q0 := q0.over x); rw [zaa h'])
    repeat' (first | simp -implicitDefEqProofs only [syms, symx, seval, c52] | ((with_reducible  apply zg4 ) <;> intro _))
    · exact h2k (fun x => hv2 (x.body y (List.mem_of_getElem? hy'))) _ (z.upW _ _ (by omega))
    · exact absurd (by assumption) hc
theorem zw3 (cl : List ClauseD) (facts : List AtomD) (v u : Value) (h : Heap) (hl : Sl Rep.clause h v cl) (hf : Sl Rep.atom h u facts) (hn : cl.length ≤ 1000) (hcb : ∀ c ∈ cl, c.body.length ≤ 1000) (hfn : facts.length ≤ 1000) (K : Value → Heap → Prop) (h1k : MayX cl facts → ∀ h', Ext h h' → K (.bool true) h') (h2k : ¬ MayX cl facts → ∀ h', Ext h h' → K (.bool false) h') : Ok Tryz.prog tab ov 13 [v, u] h K := by
  rw [zaa h]
  have z := Ext.refl h
  have hva := zaH v
  have hvu := zaH u
  have hlv := fun (hh : Heap) => hl.lenA ds32 hh
  have hlu := fun (hh : Heap) => hf.lenA ds27 hh
  refine Ok.into rfl zvw (zaB N13) rfl (m := 29) rfl ?_
  simp -implicitDefEqProofs only [syms, symx, seval, c13]
  obtain ⟨I1, hI1⟩ : ∃ I : Nat → Env → Heap → Prop, I = (fun n e h' => ∃ (i : Nat) (h1 : Heap), h' = h1.lay [] h1.low ∧ Ext h h1 ∧ (n = cl.length - i ∧ i ≤ cl.length ∧ (∀ c ∈ cl.take i, OneX c)) ∧ ∃ J : Nat → Value, e = (v :: u :: jr J 2 3 (.int .i64 i :: jr J 6 25 ([])))) := ⟨_, rfl⟩
  refine zas I1 _ (by rw [hI1]; exact ⟨0, _, rfl, z, ⟨rfl, by omega, by simp⟩, junk (by kernel_rfl)⟩) ?_
  intro n e h' hin
  rw [hI1] at hin
  obtain ⟨i, h1', rfl, z, hinv, J, rfl⟩ := hin
  obtain ⟨rfl, hi, hall⟩ := hinv
  have hw : IntKind.i64.wrap ((i : Int) + 1) = ((i + 1 : Nat) : Int) := by rw [zae (by omega) (by omega)]; omega
  simp -implicitDefEqProofs only [syms, symx, seval, c13, hva, hlv]
  refine zaw (fun hlt => ?_) (fun hlt => ?_)
  · obtain ⟨r, hr, hr'⟩ := za5 (l := cl) (i := i) (by omega)
    repeat' (first | simp -implicitDefEqProofs only [syms, symx, seval, c13, hva] | with_reducible_and_instances refine zo5 (hl.mono z.inc) ds32 sz29 (by omega) hr (fun p bd hbd hp => ?_) | with_reducible_and_instances refine ldc hp ag29 sz29 ?_)
    refine zw9 r _ _ (Sl.lay (by assumption) _ _) (hcb r (List.mem_of_getElem? hr')) _ (fun ho h' x => ?_) (fun ho h' x => ?_)
    · ((skip); replace z := z.overW x (by (try simp only [lsz]); omega); rw [zaa h'])
      repeat' (first | simp -implicitDefEqProofs only [syms, symx, seval, c13, Bool.not_true] | ((with_reducible_and_instances apply zaf); (· rfl)))
      rw [hw]
      (rw [hI1]; with_reducible refine zac (m := _) ?_ ⟨i + 1, _, rfl, z, ⟨rfl, by omega, zbp (i := i) (P := OneX) hr' hall ho⟩, junk (by kernel_rfl)⟩; omega)
    · ((skip); replace z := z.overW x (by (try simp only [lsz]); omega); rw [zaa h'])
      repeat' (first | simp -implicitDefEqProofs only [syms, symx, seval, c13, Bool.not_false] | ((with_reducible_and_instances apply zaf); (· rfl)))
      exact h2k (fun x => ho (x.clauses r (List.mem_of_getElem? hr'))) _ (z.upW _ _ (by omega))
  rw [List.take_of_length_le (by omega)] at hall
  repeat' ( simp -implicitDefEqProofs only [syms, symx, seval, c13])
  obtain ⟨I2, hI2⟩ : ∃ I : Nat → Env → Heap → Prop, I = (fun n e h' => ∃ (k : Nat) (h1 : Heap), h' = h1.lay [] h1.low ∧ Ext h h1 ∧ (n = facts.length - k ∧ k ≤ facts.length ∧ (∀ a ∈ facts.take k, FactX a)) ∧ ∃ J : Nat → Value, e = (v :: u :: jr J 2 4 (.int .i64 k :: jr J 7 24 ([])))) := ⟨_, rfl⟩
  refine zas I2 _ (by rw [hI2]; exact ⟨0, _, rfl, z, ⟨rfl, by omega, by simp⟩, junk (by kernel_rfl)⟩) ?_
  intro n e h' hin
  rw [hI2] at hin
  obtain ⟨k, h1', rfl, z, hinv, J, rfl⟩ := hin
  obtain ⟨rfl, hk1, hfa⟩ := hinv
  have hwk : IntKind.i64.wrap ((k : Int) + 1) = ((k + 1 : Nat) : Int) := by rw [zae (by omega) (by omega)]; omega
  simp -implicitDefEqProofs only [syms, symx, seval, c13, hvu, hlu]
  refine zaw (fun hlt2 => ?_) (fun hlt2 => ?_)
  rotate_left
  · rw [List.take_of_length_le (by omega)] at hfa
    repeat' ( simp -implicitDefEqProofs only [syms, symx, seval, c13])
    exact h1k ⟨hall, hfa⟩ _ (z.upW _ _ (by omega))
  obtain ⟨y, hy, hy'⟩ := za5 (l := facts) (i := k) (by omega)
  repeat' (first | simp -implicitDefEqProofs only [syms, symx, seval, c13, hvu] | with_reducible_and_instances refine zdN (hf.mono z.inc) ds27 sz26 (by omega) hy (fun p hp => ?_) | with_reducible_and_instances refine lda hp ag26 sz26 ?_)
  refine zud y _ _ (fun hv2 h' x => ?_) (fun hv2 h' x => ?_)
  · ((skip); replace z := z.overW x (by (try simp only [lsz]); omega); rw [zaa h'])
    repeat' (first | simp -implicitDefEqProofs only [syms, symx, seval, c13, Bool.not_true] | ((with_reducible_and_instances apply zaf); (· rfl)))
    rw [hwk]
    (rw [hI2]; with_reducible refine zac (m := _) ?_ ⟨k + 1, _, rfl, z, ⟨rfl, by omega, zbp (i := k) (P := FactX) hy' hfa hv2⟩, junk (by kernel_rfl)⟩; omega)
  · ((skip); replace z := z.overW x (by (try simp only [lsz]); omega); rw [zaa h'])
    repeat' (first | simp -implicitDefEqProofs only [syms, symx, seval, c13, Bool.not_false] | ((with_reducible_and_instances apply zaf); (· rfl)))
    exact h2k (fun x => hv2 (x.facts y (List.mem_of_getElem? hy'))) _ (z.upW _ _ (by omega))
theorem znN (a : AtomD) : a.cells.length = 11 := rfl
end Go.Proofs.YtemapihoobmonaaGreatDoor
