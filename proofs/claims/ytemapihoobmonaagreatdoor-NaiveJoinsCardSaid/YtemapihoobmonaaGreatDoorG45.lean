/- Walks: ground atoms, variables, clauses and facts that may be, by the document. Written out by fill2.py. No condition. -/
import Derived.Test.YtemapihoobmonaaGreatDoorG43
import Derived.Test.YtemapihoobmonaaGreatDoorG44
import Derived.Test.YtemapihoobmonaaGreatDoorG33
import Derived.Test.YtemapihoobmonaaGreatDoorG31
namespace Go.Proofs.YtemapihoobmonaaGreatDoor
open Go.Am
set_option linter.unusedSimpArgs false
set_option linter.unusedVariables false
set_option maxRecDepth 100000
set_option maxHeartbeats 0
theorem zjN (a : AtomD) (i : Nat) (hi : i < 4) : a.cells[3 + i * 2 + 0]? = some (.bool (a.arg i).v) := by
  have : i = 0 ∨ i = 1 ∨ i = 2 ∨ i = 3 := by omega
  rcases this with rfl | rfl | rfl | rfl <;> rfl
theorem zrb (a : AtomD) (i : Nat) (hi : i < 4) : a.cells[3 + i * 2 + 1]? = some (.string (a.arg i).s) := by
  have : i = 0 ∨ i = 1 ∨ i = 2 ∨ i = 3 := by omega
  rcases this with rfl | rfl | rfl | rfl <;> rfl
theorem zAz : binA Tryz.prog tab .eql 4 (.bool true) (.bool true) = some (.bool true) := by kernel_rfl
theorem zAk : binA Tryz.prog tab .eql 4 (.bool true) (.bool false) = some (.bool false) := by kernel_rfl
theorem zAy : binA Tryz.prog tab .eql 4 (.bool false) (.bool true) = some (.bool false) := by kernel_rfl
theorem zzu : binA Tryz.prog tab .eql 4 (.bool false) (.bool false) = some (.bool true) := by kernel_rfl
theorem zoW (a : AtomD) (u : Value) : cut (a.cells ++ [u]) 0 11 = some a.cells := rfl
theorem zsH (a : AtomD) (u : Value) : cut (a.cells ++ [u]) 0 12 = some (a.cells ++ [u]) := rfl
theorem zeX (a : AtomD) (u : Value) : (a.cells ++ [u])[11]? = some u := rfl
theorem zjH (a : AtomD) (h : Heap) (K : Value → Heap → Prop) (hk : ∀ h', Ext h h' → K (.bool a.ground) h') : Ok Tryz.prog tab ov 62 [a.val] h K := by
  rw [zaa h]
  have z := Ext.refl h
  have hcn : a.cnt ≤ 4 := by unfold AtomD.cnt; omega
  refine Ok.into rfl zvN (zaB N62) rfl (m := 14) rfl ?_
  repeat' ( simp -implicitDefEqProofs only [syms, symx, seval, c62, zay])
  refine zeg (fun h' x hq => ?_)
  have q0 := hq 0 _ rfl
  clear hq
  (replace z := z.overW x (by (try simp only [lsz]); omega); rw [zaa h'])
  obtain ⟨A0, hA0⟩ : ∃ A0, A0 = h.size + 0 := ⟨_, rfl⟩
  rw [← hA0] at q0
  rw [← hA0]
  obtain ⟨I1, hI1⟩ : ∃ I : Nat → Env → Heap → Prop, I = (fun n e h' => ∃ (i : Nat) (h1 : Heap), h' = h1.lay [] h1.low ∧ Ext h h1 ∧ (n = a.cnt - i ∧ i ≤ a.cnt ∧ (∀ j, j < i → (a.arg j).v = false) ∧ Holds h1 A0 (.row a.cells 26 false)) ∧ ∃ J : Nat → Value, e = (J 0 :: .pointer (some ⟨A0, 0, none⟩) :: J 2 :: .int .i64 i :: jr J 4 11 ([]))) := ⟨_, rfl⟩
  refine zat I1 _ (by rw [hI1]; exact ⟨0, _, rfl, z, ⟨rfl, by omega, fun j hj => by omega, q0⟩, junk (by kernel_rfl)⟩) ?_
  intro n e h' hin
  rw [hI1] at hin
  obtain ⟨i, h1', rfl, z, hinv, J, rfl⟩ := hin
  clear q0
  obtain ⟨rfl, hi, hall, q0⟩ := hinv
  have hw : IntKind.i64.wrap ((i : Int) + 1) = ((i + 1 : Nat) : Int) := by rw [zae (by omega) (by omega)]; omega
  simp -implicitDefEqProofs only [syms, symx, seval, c62, q0.lay, ↓zau, zar, zai]
  refine zfW a _ _ (fun h' x => ?_)
  ((skip); replace z := z.overW x (by (try simp only [lsz]); omega); (try replace q0 := q0.over x); rw [zaa h'])
  simp -implicitDefEqProofs only [syms, symx, seval, c62]
  refine zaw (fun hlt => ?_) (fun hlt => ?_)
  rotate_left
  · have hg : a.ground = true := ground_iff.2 (fun j hj => hall j (by omega))
    rw [hg] at hk
    repeat' ( simp -implicitDefEqProofs only [syms, symx, seval, c62])
    exact hk _ (z.upW _ _ (by omega))
  have hi4 : (0 : Int) ≤ (i : Int) ∧ (i : Int) < 4 := by omega
  have hcB := zjN a i (by omega)
  obtain ⟨vb, hvb⟩ : ∃ vb, (a.arg i).v = vb := ⟨_, rfl⟩
  rw [hvb] at hcB
  cases vb
  · repeat' ( simp -implicitDefEqProofs only [syms, symx, seval, c62, q0.lay, hi4, and_self, if_true, hcB])
    rw [hw]
    have hnx : ∀ j, j < i + 1 → (a.arg j).v = false := by
      intro j hj
      by_cases hji : j < i
      · exact hall j hji
      · have : j = i := by omega
        subst this
        exact hvb
    (rw [hI1]; with_reducible refine zac (m := _) ?_ ⟨i + 1, _, rfl, z, ⟨rfl, by omega, hnx, q0⟩, junk (by kernel_rfl)⟩; omega)
  · have hg : a.ground = false := by
      cases hgg : a.ground
      · rfl
      · rw [ground_iff.1 hgg i (by omega)] at hvb
        cases hvb
    rw [hg] at hk
    repeat' ( simp -implicitDefEqProofs only [syms, symx, seval, c62, q0.lay, hi4, and_self, if_true, hcB])
    exact hk _ (z.upW _ _ (by omega))
theorem zu5 (a : AtomD) (h : Heap) (K : Value → Heap → Prop) (h1k : FactX a → ∀ h', Ext h h' → K (.bool true) h') (h2k : ¬ FactX a → ∀ h', Ext h h' → K (.bool false) h') : Ok Tryz.prog tab ov 53 [a.val] h K := by
  rw [zaa h]
  have z := Ext.refl h
  refine Ok.into rfl zvp (zaB N53) rfl (m := 9) rfl ?_
  repeat' ( simp -implicitDefEqProofs only [syms, symx, seval, c53, zay, ↓zau, zar, zai])
  refine ziG a _ _ (fun hv h' x => ?_) (fun hv c h' hc x => ?_)
  · have q0 := Holds.top (i := 0) x rfl
    ((skip); replace z := z.overW x (by (try simp only [lsz]); omega); rw [zaa h'])
    repeat' ( simp -implicitDefEqProofs only [syms, symx, seval, c53, q0.lay, ↓zau, zar, zai])
    refine zjH a _ _ (fun h' x => ?_)
    ((skip); replace z := z.overW x (by (try simp only [lsz]); omega); (try replace q0 := q0.over x); rw [zaa h'])
    cases hg : a.ground
    · repeat' ( simp -implicitDefEqProofs only [syms, symx, seval, c53])
      exact h2k (fun x => by rw [x.ground] at hg; cases hg) _ (z.upW _ _ (by omega))
    · repeat' ( simp -implicitDefEqProofs only [syms, symx, seval, c53])
      exact h1k ⟨hv, hg⟩ _ (z.upW _ _ (by omega))
  · ((skip); replace z := z.overW x (by (try simp only [lsz]); omega); (try replace q0 := q0.over x); rw [zaa h'])
    repeat' (first | simp -implicitDefEqProofs only [syms, symx, seval, c53] | ((with_reducible  apply zdI ) <;> intro _))
    · exact absurd (by assumption) hc
    · exact h2k (fun x => hv x.valid) _ (z.upW _ _ (by omega))
theorem zsF (a : AtomD) (bv : Bool) (h : Heap) (K : Value → Heap → Prop) (hk : ∀ w l h', Ext h h' → Sl Rep.str h' w l → l.length ≤ 4 → (∀ x, x ∈ l ↔ ∃ i : Nat, i < a.cnt ∧ (a.arg i).v = bv ∧ (a.arg i).s = x) → K w h') : Ok Tryz.prog tab ov 158 [a.val, .bool bv] h K := by
  rw [zaa h]
  have z := Ext.refl h
  have hcn : a.cnt ≤ 4 := by unfold AtomD.cnt; omega
  refine Ok.into rfl ztW (zaB N158) rfl (m := 50) rfl ?_
  repeat' ( simp -implicitDefEqProofs only [syms, symx, seval, c158, zay])
  refine zeg (fun h' x hq => ?_)
  have q0 := hq 0 _ rfl
  clear hq
  (replace z := z.overW x (by (try simp only [lsz]); omega); rw [zaa h'])
  have hz0 := z.size
  obtain ⟨A0, hA0⟩ : ∃ A0, A0 = h.size + 0 := ⟨_, rfl⟩
  rw [← hA0] at q0
  rw [← hA0]
  have q0l := q0.lt
  obtain ⟨I1, hI1⟩ : ∃ I : Nat → Env → Heap → Prop, I = (fun n e h' => ∃ (i : Nat) (wv : Value) (A : Nat) (l : List ByteArray) (h1 : Heap), h' = h1.lay [] h1.low ∧ Ext h h1 ∧ (n = a.cnt - i ∧ i ≤ a.cnt ∧ l.length ≤ i ∧ (∀ x, x ∈ l ↔ ∃ j : Nat, j < i ∧ (a.arg j).v = bv ∧ (a.arg j).s = x) ∧ Ow Rep.str h h1 9 A wv l ∧ A ≠ A0 ∧ Holds h1 A0 (.row a.cells 26 false)) ∧ ∃ J : Nat → Value, e = (J 0 :: .bool bv :: .pointer (some ⟨A0, 0, none⟩) :: jr J 3 2 (wv :: .int .i64 i :: jr J 7 45 ([])))) := ⟨_, rfl⟩
  refine zat I1 _ (by rw [hI1]; exact ⟨0, .slice none 0 0, A0 + 1, [], _, rfl, z, ⟨rfl, by omega, by simp, by simp, Ow.nil (by omega), by omega, q0⟩, junk (by kernel_rfl)⟩) ?_
  intro n e h' hin
  rw [hI1] at hin
  obtain ⟨i, wv, A, l, h1', rfl, z, hinv, J, rfl⟩ := hin
  clear q0
  obtain ⟨rfl, hi, hll, hmem, ow, hAA, q0⟩ := hinv
  have hw : IntKind.i64.wrap ((i : Int) + 1) = ((i + 1 : Nat) : Int) := by rw [zae (by omega) (by omega)]; omega
  have hvw := zaI wv
  simp -implicitDefEqProofs only [syms, symx, seval, c158, q0.lay, ↓zau, zar, zai]
  refine zfW a _ _ (fun h' x => ?_)
  (( skip); replace z := z.overW x (by (try simp only [lsz]); omega); (try replace q0 := q0.over x); (try replace ow := ow.over x); rw [zaa h'])
  simp -implicitDefEqProofs only [syms, symx, seval, c158]
  refine zaw (fun hlt => ?_) (fun hlt => ?_)
  rotate_left
  · have he : i = a.cnt := by omega
    rw [he] at hmem
    repeat' ( simp -implicitDefEqProofs only [syms, symx, seval, c158, hvw])
    exact hk _ _ _ (z.upW _ _ (by omega)) ((ow.sl (by decide)).lay _ _) (by omega) hmem
  repeat' ( simp -implicitDefEqProofs only [syms, symx, seval, c158])
  obtain ⟨I2, hI2⟩ : ∃ I : Nat → Env → Heap → Prop, I = (fun n e h' => ∃ (k : Nat) (b : Bool) (h1 : Heap), h' = h1.lay [] h1.low ∧ Ext h h1 ∧ (n = i - k ∧ k ≤ i ∧ (b = true ↔ ∃ j : Nat, j < k ∧ a.arg j = a.arg i) ∧ Ow Rep.str h h1 9 A wv l ∧ Holds h1 A0 (.row a.cells 26 false)) ∧ ∃ J : Nat → Value, e = (J 0 :: .bool bv :: .pointer (some ⟨A0, 0, none⟩) :: jr J 3 2 (wv :: .int .i64 i :: .bool b :: .int .i64 k :: jr J 9 43 ([])))) := ⟨_, rfl⟩
  refine zat I2 _ (by rw [hI2]; exact ⟨0, false, _, rfl, z, ⟨rfl, by omega, by simp, ow, q0⟩, junk (by kernel_rfl)⟩) ?_
  intro n e h' hin
  rw [hI2] at hin
  obtain ⟨k, b, h1', rfl, z, hinv, J, rfl⟩ := hin
  clear q0 ow
  obtain ⟨rfl, hk1, hbb, ow, q0⟩ := hinv
  have hwk : IntKind.i64.wrap ((k : Int) + 1) = ((k + 1 : Nat) : Int) := by rw [zae (by omega) (by omega)]; omega
  have hi4 : (0 : Int) ≤ (i : Int) ∧ (i : Int) < 4 := by omega
  have hca := zhu a i (by omega)
  simp -implicitDefEqProofs only [syms, symx, seval, c158]
  refine zaw (fun hlt2 => ?_) (fun hlt2 => ?_)
  · have hk4 : (0 : Int) ≤ (k : Int) ∧ (k : Int) < 4 := by omega
    have hcb := zhu a k (by omega)
    have hup : (∃ j : Nat, j < k + 1 ∧ a.arg j = a.arg i) ↔ (∃ j : Nat, j < k ∧ a.arg j = a.arg i) ∨ a.arg k = a.arg i := by
      constructor
      · rintro ⟨j, hj, e⟩
        by_cases hjk : j = k
        · subst hjk
          exact .inr e
        · exact .inl ⟨j, by omega, e⟩
      · rintro (⟨j, hj, e⟩ | e)
        · exact ⟨j, by omega, e⟩
        · exact ⟨k, by omega, e⟩
    cases b
    · repeat' (first | simp -implicitDefEqProofs only [syms, symx, seval, c158, q0.lay, hi4, hk4, ↓hca, ↓hcb, zf2, zaK, and_self, if_true, zlf] | with_reducible refine zb2 (by simp only [c158]) (z.upW _ _ (by omega)) ?_ | ((with_reducible  apply zaw ) <;> intro _) | ((with_reducible refine ⟨z.grw.lay _ _, ?_⟩); (intro _ h' zz x _); (try simp only [zas, List.append_nil] at x); (try replace q0 := q0.over x); (try replace ow := ow.over x); (replace z := zz); (clear zz); rw [zaa h']))
      all_goals rw [hwk]
      · have hbn : (true = true ↔ ∃ j : Nat, j < k + 1 ∧ a.arg j = a.arg i) := by rw [hup]; exact ⟨fun _ => .inr (by assumption), fun _ => rfl⟩
        (rw [hI2]; with_reducible refine zac (m := _) ?_ ⟨k + 1, true, _, rfl, z, ⟨rfl, by omega, hbn, ow, q0⟩, junk (by kernel_rfl)⟩; omega)
      · have hbn : (false = true ↔ ∃ j : Nat, j < k + 1 ∧ a.arg j = a.arg i) := by
          rw [hup, ← hbb]
          exact ⟨fun e => .inl e, fun e => e.elim id (fun e => absurd e (by assumption))⟩
        (rw [hI2]; with_reducible refine zac (m := _) ?_ ⟨k + 1, false, _, rfl, z, ⟨rfl, by omega, hbn, ow, q0⟩, junk (by kernel_rfl)⟩; omega)
    · repeat' (first | simp -implicitDefEqProofs only [syms, symx, seval, c158, q0.lay, hi4, hk4, ↓hca, ↓hcb, zf2, zaK, and_self, if_true] | with_reducible refine zb2 (by simp only [c158]) (z.upW _ _ (by omega)) ?_ | ((with_reducible refine ⟨z.grw.lay _ _, ?_⟩); (intro _ h' zz x _); (try simp only [zas, List.append_nil] at x); (try replace q0 := q0.over x); (try replace ow := ow.over x); (replace z := zz); (clear zz); rw [zaa h']))
      rw [hwk]
      have hbn : (true = true ↔ ∃ j : Nat, j < k + 1 ∧ a.arg j = a.arg i) := by rw [hup]; exact ⟨fun e => .inl (hbb.1 e), fun _ => rfl⟩
      (rw [hI2]; with_reducible refine zac (m := _) ?_ ⟨k + 1, true, _, rfl, z, ⟨rfl, by omega, hbn, ow, q0⟩, junk (by kernel_rfl)⟩; omega)
  have hki : k = i := by omega
  have hcB := zjN a i (by omega)
  have hcS := zrb a i (by omega)
  have hws : IntKind.i64.wrap ((i : Int) + 1) = ((i + 1 : Nat) : Int) := hw
  have hup : ∀ x, (∃ j : Nat, j < i + 1 ∧ (a.arg j).v = bv ∧ (a.arg j).s = x) ↔ (∃ j : Nat, j < i ∧ (a.arg j).v = bv ∧ (a.arg j).s = x) ∨ ((a.arg i).v = bv ∧ (a.arg i).s = x) := by
    intro x
    constructor
    · rintro ⟨j, hj, e⟩
      by_cases hjk : j = i
      · subst hjk
        exact .inr e
      · exact .inl ⟨j, by omega, e⟩
    · rintro (⟨j, hj, e⟩ | e)
      · exact ⟨j, by omega, e⟩
      · exact ⟨i, by omega, e⟩
  have hskip : (b = true ∨ ¬ (a.arg i).v = bv) → ∀ x, x ∈ l ↔ ∃ j : Nat, j < i + 1 ∧ (a.arg j).v = bv ∧ (a.arg j).s = x := by
    intro hs x
    rw [hup, ← hmem]
    refine ⟨.inl, fun e => e.elim id (fun e => ?_)⟩
    rcases hs with hs | hs
    · obtain ⟨j, hj, ej⟩ := hbb.1 hs
      rw [hmem]
      exact ⟨j, by omega, by rw [ej]; exact e⟩
    · exact absurd e.1 hs
  have htake : (a.arg i).v = bv → ∀ x, x ∈ l ++ [(a.arg i).s] ↔ ∃ j : Nat, j < i + 1 ∧ (a.arg j).v = bv ∧ (a.arg j).s = x := by
    intro hs x
    rw [hup, ← hmem, List.mem_append, List.mem_singleton]
    exact ⟨fun e => e.imp id (fun e => ⟨hs, e.symm⟩), fun e => e.imp id (fun e => e.2.symm)⟩
  obtain ⟨vb, hvb⟩ : ∃ vb, (a.arg i).v = vb := ⟨_, rfl⟩
  rw [hvb] at hcB hskip htake
  have hvbE : ∀ (h : Heap) (K : Value → Heap → Prop), valE (some (.bool vb)) h K = K (.bool vb) h := fun _ _ => rfl
  cases vb
  all_goals
    cases bv
    all_goals
      cases b
      all_goals
        repeat' (first | simp -implicitDefEqProofs only [syms, symx, seval, c158, q0.lay, hi4, and_self, if_true, hcB, hcS, hvw, zAz, zAk, zAy, zzu, Bool.not_false, Bool.not_true] | ((with_reducible_and_instances apply zaf); (· rfl)))
  all_goals first
    | (rw [hw]
       have hsk := hskip (by simp)
       (rw [hI1]; with_reducible refine zac (m := _) ?_ ⟨i + 1, wv, A, l, _, rfl, z, ⟨rfl, by omega, by omega, hsk, ow, hAA, q0⟩, junk (by kernel_rfl)⟩; omega))
    | skip
  all_goals
    simp -implicitDefEqProofs only [syms, symx, seval, c158, zbg, zwY]
    have htk := htake rfl
    have hHs : (h1'.lay [Blk.row [Value.string (a.arg i).s] 9 false] h1'.low).size = h1'.size + 1 := by rw [zad]; rfl
    obtain ⟨hs1, hsr⟩ := zgE (r := Rep.str) (A := A) (c := 1) (y := (a.arg i).s) (by decide) (show (h1'.lay [Blk.row [Value.string (a.arg i).s] 9 false] h1'.low).get (h1'.size + 0) = some (.row [Value.string (a.arg i).s] 9 false) by rw [za4]; rfl) rfl
    have hz := z.size
    obtain ⟨w', h2, A', e1, e2, e3, e4, e5⟩ := zfK (t := 49) ds49 zfI rfl (by decide) (by rw [hHs]; omega) (ow.mono (Inc.lay _ _ _)) hs1 hsr (by omega) (by omega)
    have hfA := ow.fresh
    have q0l := q0.lt
    rw [hHs] at e4
    replace z := (z.upW [Blk.row [Value.string (a.arg i).s] 9 false] h1'.low (by omega)).step e3 hfA
    clear hup hbb hki
    have q1 := q0.stepL e3 (by first | exact hAA | exact Ne.symm hAA)
    rw [e1, zaa h2]
    clear q0 ow
  all_goals
    repeat' ( simp -implicitDefEqProofs only [syms, symx, seval, c158])
    rw [hw]
    (rw [hI1]; with_reducible refine zac (m := _) ?_ ⟨i + 1, w', A', l ++ [(a.arg i).s], _, rfl, z, ⟨rfl, by omega, by rw [List.length_append, List.length_singleton]; omega, htk, e2, by omega, q1⟩, junk (by kernel_rfl)⟩; omega)
theorem zoQ (a : AtomD) (h : Heap) (K : Value → Heap → Prop) (hk : ∀ w l h', Ext h h' → Sl Rep.str h' w l → l.length ≤ 4 → (∀ x, x ∈ l ↔ zdb a x) → K w h') : Ok Tryz.prog tab ov 123 [a.val] h K := by
  rw [zaa h]
  have z := Ext.refl h
  refine Ok.into rfl ztL (zaB N123) rfl (m := 4) rfl ?_
  repeat' ( simp -implicitDefEqProofs only [syms, symx, seval, c123, zay, ↓zau, zar, zai])
  refine zsF a true _ _ (fun w l h' x s hl hm => ?_)
  ((skip); replace z := z.overW x (by (try simp only [lsz]); omega); rw [zaa h'])
  have hvw := zaI w
  repeat' ( simp -implicitDefEqProofs only [syms, symx, seval, c123, hvw])
  exact hk _ _ _ (z.upW _ _ (by omega)) (s.lay _ _) hl (fun x => (hm x).trans varIn_iff.symm)
theorem zqR (c : ClauseD) (v : Value) (h : Heap) (hl : Sl Rep.atom h v c.body) (hn : c.body.length ≤ 1000) (K : Value → Heap → Prop) (h1k : (∀ x, zdb c.head x → ∃ b ∈ c.body, zdb b x) → ∀ h', Ext h h' → K (.bool true) h') (h2k : ¬ (∀ x, zdb c.head x → ∃ b ∈ c.body, zdb b x) → ∀ h', Ext h h' → K (.bool false) h') : Ok Tryz.prog tab ov 91 [.agg ⟨c.head.cells ++ [v]⟩] h K := by
  rw [zaa h]
  have z := Ext.refl h
  have hva := zaI v
  have hlv := fun (hh : Heap) => hl.lenA ds27 hh
  refine Ok.into rfl zvA (zaB N91) rfl (m := 54) rfl ?_
  repeat' ( simp -implicitDefEqProofs only [syms, symx, seval, c91, zay, ↓zau, ↓zoW, zar, zai, hva])
  refine zoQ c.head _ _ (fun w lh h' x s hll hm => ?_)
  have q0 := Holds.top (i := 0) x rfl
  (( skip); replace z := z.overW x (by (try simp only [lsz]); omega); rw [zaa h'])
  obtain ⟨A0, hA0⟩ : ∃ A0, A0 = h.size + 0 := ⟨_, rfl⟩
  rw [← hA0] at q0
  rw [← hA0]
  have hvw := zaI w
  have hlw := fun (hh : Heap) => s.lenA ds49 hh
  repeat' ( simp -implicitDefEqProofs only [syms, symx, seval, c91, hvw])
  obtain ⟨I1, hI1⟩ : ∃ I : Nat → Env → Heap → Prop, I = (fun n e h' => ∃ (i : Nat) (h1 : Heap), h' = h1.lay [] h1.low ∧ Ext h h1 ∧ (n = lh.length - i ∧ i ≤ lh.length ∧ (∀ x ∈ lh.take i, ∃ b ∈ c.body, zdb b x) ∧ Holds h1 A0 (.row (c.head.cells ++ [v]) 29 false) ∧ Sl Rep.str h1 w lh) ∧ ∃ J : Nat → Value, e = (J 0 :: .pointer (some ⟨A0, 0, none⟩) :: J 2 :: w :: .int .i64 i :: jr J 5 50 ([]))) := ⟨_, rfl⟩
  refine zat I1 _ (by rw [hI1]; exact ⟨0, _, rfl, z, ⟨rfl, by omega, by simp, q0, s⟩, junk (by kernel_rfl)⟩) ?_
  intro n e h' hin
  rw [hI1] at hin
  obtain ⟨i, h1', rfl, z, hinv, J, rfl⟩ := hin
  clear q0 s
  obtain ⟨rfl, hi, hall, q0, s⟩ := hinv
  have hw : IntKind.i64.wrap ((i : Int) + 1) = ((i + 1 : Nat) : Int) := by rw [zae (by omega) (by omega)]; omega
  simp -implicitDefEqProofs only [syms, symx, seval, c91, hvw, hlw]
  refine zaw (fun hlt => ?_) (fun hlt => ?_)
  rotate_left
  · rw [List.take_of_length_le (by omega)] at hall
    repeat' ( simp -implicitDefEqProofs only [syms, symx, seval, c91])
    exact h1k (fun x hx => hall x ((hm x).2 hx)) _ (z.upW _ _ (by omega))
  obtain ⟨x0, hx0, hx0'⟩ := za6 (l := lh) (i := i) (by omega)
  have hxh : zdb c.head x0 := (hm x0).1 (List.mem_of_getElem? hx0')
  repeat' ( simp -implicitDefEqProofs only [syms, symx, seval, c91])
  obtain ⟨I2, hI2⟩ : ∃ I : Nat → Env → Heap → Prop, I = (fun n e h' => ∃ (k : Nat) (b : Bool) (h1 : Heap), h' = h1.lay [] h1.low ∧ Ext h h1 ∧ (n = c.body.length - k ∧ k ≤ c.body.length ∧ (b = true ↔ ∃ y ∈ c.body.take k, zdb y x0) ∧ Holds h1 A0 (.row (c.head.cells ++ [v]) 29 false) ∧ Sl Rep.str h1 w lh) ∧ ∃ J : Nat → Value, e = (J 0 :: .pointer (some ⟨A0, 0, none⟩) :: J 2 :: w :: .int .i64 i :: .bool b :: .int .i64 k :: jr J 7 48 ([]))) := ⟨_, rfl⟩
  refine zat I2 _ (by rw [hI2]; exact ⟨0, false, _, rfl, z, ⟨rfl, by omega, by simp, q0, s⟩, junk (by kernel_rfl)⟩) ?_
  intro n e h' hin
  rw [hI2] at hin
  obtain ⟨k, b, h1', rfl, z, hinv, J, rfl⟩ := hin
  clear q0 s
  obtain ⟨rfl, hk1, hbb, q0, s⟩ := hinv
  have hwk : IntKind.i64.wrap ((k : Int) + 1) = ((k + 1 : Nat) : Int) := by rw [zae (by omega) (by omega)]; omega
  cases b
  rotate_left
  · have hall2 : ∀ x ∈ lh.take (i + 1), ∃ b ∈ c.body, zdb b x := za7 (i := i) (P := fun x => ∃ b ∈ c.body, zdb b x) hx0' hall (by
      obtain ⟨y, hy, e⟩ := hbb.1 rfl
      exact ⟨y, List.mem_of_mem_take hy, e⟩)
    simp -implicitDefEqProofs only [syms, symx, seval, c91, q0.lay, zeX, hva, hlv]
    refine zaw (fun hlt2 => ?_) (fun hlt2 => ?_)
    all_goals
      repeat' (first | simp -implicitDefEqProofs only [syms, symx, seval, c91, Bool.not_true] | ((with_reducible_and_instances apply zaf); (· rfl)))
      rw [hw]
      (rw [hI1]; with_reducible refine zac (m := _) ?_ ⟨i + 1, _, rfl, z, ⟨rfl, by omega, hall2, q0, s⟩, junk (by kernel_rfl)⟩; omega)
  simp -implicitDefEqProofs only [syms, symx, seval, c91, q0.lay, zeX, hva, hlv]
  refine zaw (fun hlt2 => ?_) (fun hlt2 => ?_)
  rotate_left
  · rw [List.take_of_length_le (by omega)] at hbb
    repeat' (first | simp -implicitDefEqProofs only [syms, symx, seval, c91, Bool.not_false] | ((with_reducible_and_instances apply zaf); (· rfl)))
    exact h2k (fun hh => by have := hbb.2 (hh x0 hxh); cases this) _ (z.upW _ _ (by omega))
  obtain ⟨y, hy, hy'⟩ := za6 (l := c.body) (i := k) (by omega)
  repeat' (first | simp -implicitDefEqProofs only [syms, symx, seval, c91, Bool.not_false, q0.lay, zeX, hva] | with_reducible_and_instances refine zee (hl.mono z.inc) ds27 sz26 (by omega) hy (fun p hp => ?_) | with_reducible_and_instances refine lda hp ag26 sz26 ?_ | ((with_reducible_and_instances apply zaf); (· rfl)))
  refine zoQ y _ _ (fun w2 l2 h' x s2 hll2 hm2 => ?_)
  (( skip); replace z := z.overW x (by (try simp only [lsz]); omega); (try replace q0 := q0.over x); (try replace s := s.over x); rw [zaa h'])
  have hvw2 := zaI w2
  have hlw2 := fun (hh : Heap) => s2.lenA ds49 hh
  repeat' ( simp -implicitDefEqProofs only [syms, symx, seval, c91, hvw2])
  obtain ⟨I3, hI3⟩ : ∃ I : Nat → Env → Heap → Prop, I = (fun n e h' => ∃ (d : Nat) (b : Bool) (h1 : Heap), h' = h1.lay [] h1.low ∧ Ext h h1 ∧ (n = l2.length - d ∧ d ≤ l2.length ∧ (b = true ↔ x0 ∈ l2.take d) ∧ Holds h1 A0 (.row (c.head.cells ++ [v]) 29 false) ∧ Sl Rep.str h1 w lh ∧ Sl Rep.str h1 w2 l2) ∧ ∃ J : Nat → Value, e = (J 0 :: .pointer (some ⟨A0, 0, none⟩) :: J 2 :: w :: .int .i64 i :: .bool b :: .int .i64 k :: w2 :: .int .i64 d :: jr J 9 46 ([]))) := ⟨_, rfl⟩
  refine zat I3 _ (by rw [hI3]; exact ⟨0, false, _, rfl, z, ⟨rfl, by omega, by simp, q0, s, s2⟩, junk (by kernel_rfl)⟩) ?_
  intro n e h' hin
  rw [hI3] at hin
  obtain ⟨d, b, h1', rfl, z, hinv, J, rfl⟩ := hin
  clear q0 s s2
  obtain ⟨rfl, he1, hb3, q0, s, s2⟩ := hinv
  have hwe : IntKind.i64.wrap ((d : Int) + 1) = ((d + 1 : Nat) : Int) := by rw [zae (by omega) (by omega)]; omega
  simp -implicitDefEqProofs only [syms, symx, seval, c91, hvw2, hlw2]
  refine zaw (fun hlt3 => ?_) (fun hlt3 => ?_)
  rotate_left
  · rw [List.take_of_length_le (by omega)] at hb3
    have hbn : (b = true ↔ ∃ y ∈ c.body.take (k + 1), zdb y x0) := by
      rw [hb3, hm2, List.take_add_one, hy']
      constructor
      · intro hh
        exact ⟨y, by simp, hh⟩
      · rintro ⟨y2, hy2, hh⟩
        rcases List.mem_append.1 hy2 with hm3 | hm3
        · exact absurd (hbb.2 ⟨y2, hm3, hh⟩) (by decide)
        · obtain rfl : y2 = y := by simpa using hm3
          exact hh
    repeat' ( simp -implicitDefEqProofs only [syms, symx, seval, c91])
    rw [hwk]
    (rw [hI2]; with_reducible refine zac (m := _) ?_ ⟨k + 1, b, _, rfl, z, ⟨rfl, by omega, hbn, q0, s⟩, junk (by kernel_rfl)⟩; omega)
  obtain ⟨x1, hx1, hx1'⟩ := za6 (l := l2) (i := d) (by omega)
  have hup : x0 ∈ l2.take (d + 1) ↔ x0 ∈ l2.take d ∨ x1 = x0 := by
    rw [List.take_add_one, hx1', List.mem_append]
    simp [eq_comm]
  cases b
  rotate_left
  · repeat' (first | simp -implicitDefEqProofs only [syms, symx, seval, c91] | with_reducible refine zb2 (by simp only [c91]) (z.upW _ _ (by omega)) ?_ | ((with_reducible refine ⟨z.grw.lay _ _, ?_⟩); (intro _ h' zz x _); (try simp only [zas, List.append_nil] at x); (try replace q0 := q0.over x); (try replace s := s.over x); (try replace s2 := s2.over x); (replace z := zz); (clear zz); rw [zaa h']))
    rw [hwe]
    have hbn : (true = true ↔ x0 ∈ l2.take (d + 1)) := by rw [hup]; exact ⟨fun _ => .inl (hb3.1 rfl), fun _ => rfl⟩
    (rw [hI3]; with_reducible refine zac (m := _) ?_ ⟨d + 1, true, _, rfl, z, ⟨rfl, by omega, hbn, q0, s, s2⟩, junk (by kernel_rfl)⟩; omega)
  repeat' (first | simp -implicitDefEqProofs only [syms, symx, seval, c91, hvw, hvw2] | with_reducible refine zb2 (by simp only [c91]) (z.upW _ _ (by omega)) ?_ | ((with_reducible  apply zaw ) <;> intro _) | with_reducible_and_instances refine zmV s2 ds49 sz9 (by omega) hx1 (fun p hp => ?_) | with_reducible_and_instances refine zmV s ds49 sz9 (by omega) hx0 (fun p hp => ?_) | with_reducible_and_instances refine zcU hp ag9 ?_ | ((with_reducible refine ⟨z.grw.lay _ _, ?_⟩); (intro _ h' zz x _); (try simp only [zas, List.append_nil] at x); (try replace q0 := q0.over x); (try replace s := s.over x); (try replace s2 := s2.over x); (replace z := zz); (clear zz); rw [zaa h']))
  · have hbn : (true = true ↔ x0 ∈ l2.take (d + 1)) := by rw [hup]; exact ⟨fun _ => .inr (by assumption), fun _ => rfl⟩
    rw [hwe]
    (rw [hI3]; with_reducible refine zac (m := _) ?_ ⟨d + 1, true, _, rfl, z, ⟨rfl, by omega, hbn, q0, s, s2⟩, junk (by kernel_rfl)⟩; omega)
  · have hbn : (false = true ↔ x0 ∈ l2.take (d + 1)) := by
      rw [hup, ← hb3]
      exact ⟨fun e => .inl e, fun e => e.elim id (fun e => absurd e (by assumption))⟩
    rw [hwe]
    (rw [hI3]; with_reducible refine zac (m := _) ?_ ⟨d + 1, false, _, rfl, z, ⟨rfl, by omega, hbn, q0, s, s2⟩, junk (by kernel_rfl)⟩; omega)
theorem zyr (c : ClauseD) (v : Value) (h : Heap) (hl : Sl Rep.atom h v c.body) (hn : c.body.length ≤ 1000) (K : Value → Heap → Prop) (h1k : OneX c → ∀ h', Ext h h' → K (.bool true) h') (h2k : ¬ OneX c → ∀ h', Ext h h' → K (.bool false) h') : Ok Tryz.prog tab ov 52 [.agg ⟨c.head.cells ++ [v]⟩] h K := by
  rw [zaa h]
  have z := Ext.refl h
  have hva := zaI v
  have hlv := fun (hh : Heap) => hl.lenA ds27 hh
  refine Ok.into rfl zwG (zaB N52) rfl (m := 23) rfl ?_
  repeat' ( simp -implicitDefEqProofs only [syms, symx, seval, c52, zay, ↓zau, ↓zoW, zar, zai, hva])
  refine ziG c.head _ _ (fun hv h' x => ?_) (fun hv cc h' hc x => ?_)
  rotate_left
  · ((skip); replace z := z.overW x (by (try simp only [lsz]); omega); (try replace q0 := q0.over x); (try replace s := s.over x); (try replace s2 := s2.over x); rw [zaa h'])
    repeat' (first | simp -implicitDefEqProofs only [syms, symx, seval, c52] | ((with_reducible  apply zji ) <;> intro _))
    · exact h2k (fun x => hv x.head) _ (z.upW _ _ (by omega))
    · exact absurd (by assumption) hc
  have q0 := Holds.top (i := 0) x rfl
  ((skip); replace z := z.overW x (by (try simp only [lsz]); omega); (try replace q0 := q0.over x); (try replace s := s.over x); (try replace s2 := s2.over x); rw [zaa h'])
  obtain ⟨A0, hA0⟩ : ∃ A0, A0 = h.size + 0 := ⟨_, rfl⟩
  rw [← hA0] at q0
  rw [← hA0]
  repeat' ( simp -implicitDefEqProofs only [syms, symx, seval, c52])
  obtain ⟨I1, hI1⟩ : ∃ I : Nat → Env → Heap → Prop, I = (fun n e h' => ∃ (i : Nat) (h1 : Heap), h' = h1.lay [] h1.low ∧ Ext h h1 ∧ (n = c.body.length - i ∧ i ≤ c.body.length ∧ (∀ y ∈ c.body.take i, ValidX y) ∧ Holds h1 A0 (.row (c.head.cells ++ [v]) 29 false)) ∧ ∃ J : Nat → Value, e = (J 0 :: .pointer (some ⟨A0, 0, none⟩) :: J 2 :: .int .i64 i :: jr J 4 20 ([]))) := ⟨_, rfl⟩
  refine zat I1 _ (by rw [hI1]; exact ⟨0, _, rfl, z, ⟨rfl, by omega, by simp, q0⟩, junk (by kernel_rfl)⟩) ?_
  intro n e h' hin
  rw [hI1] at hin
  obtain ⟨i, h1', rfl, z, hinv, J, rfl⟩ := hin
  clear q0
  obtain ⟨rfl, hi, hall, q0⟩ := hinv
  have hw : IntKind.i64.wrap ((i : Int) + 1) = ((i + 1 : Nat) : Int) := by rw [zae (by omega) (by omega)]; omega
  simp -implicitDefEqProofs only [syms, symx, seval, c52, q0.lay, zeX, hva, hlv]
  refine zaw (fun hlt => ?_) (fun hlt => ?_)
  rotate_left
  · rw [List.take_of_length_le (by omega)] at hall
    repeat' ( simp -implicitDefEqProofs only [syms, symx, seval, c52, q0.lay, ↓zsH])
    refine zqR c v _ ((hl.mono z.inc).lay _ _) hn _ (fun hr h' x => ?_) (fun hr h' x => ?_)
    · ((skip); replace z := z.overW x (by (try simp only [lsz]); omega); (try replace q0 := q0.over x); rw [zaa h'])
      repeat' ( simp -implicitDefEqProofs only [syms, symx, seval, c52])
      exact h1k ⟨hv, hall, hr⟩ _ (z.upW _ _ (by omega))
    · ((skip); replace z := z.overW x (by (try simp only [lsz]); omega); (try replace q0 := q0.over x); rw [zaa h'])
      repeat' ( simp -implicitDefEqProofs only [syms, symx, seval, c52])
      exact h2k (fun x => hr x.ranged) _ (z.upW _ _ (by omega))
  obtain ⟨y, hy, hy'⟩ := za6 (l := c.body) (i := i) (by omega)
  repeat' (first | simp -implicitDefEqProofs only [syms, symx, seval, c52, q0.lay, zeX, hva] | with_reducible_and_instances refine zee (hl.mono z.inc) ds27 sz26 (by omega) hy (fun p hp => ?_) | with_reducible_and_instances refine lda hp ag26 sz26 ?_)
  refine ziG y _ _ (fun hv2 h' x => ?_) (fun hv2 cc h' hc x => ?_)
  · ((skip); replace z := z.overW x (by (try simp only [lsz]); omega); (try replace q0 := q0.over x); rw [zaa h'])
    repeat' ( simp -implicitDefEqProofs only [syms, symx, seval, c52])
    rw [hw]
    (rw [hI1]; with_reducible refine zac (m := _) ?_ ⟨i + 1, _, rfl, z, ⟨rfl, by omega, za7 (i := i) (P := ValidX) hy' hall hv2, q0⟩, junk (by kernel_rfl)⟩; omega)
  · ((skip); replace z := z.overW x (by (try simp only [lsz]); omega); (try replace q0 := q0.over x); rw [zaa h'])
    repeat' (first | simp -implicitDefEqProofs only [syms, symx, seval, c52] | ((with_reducible  apply zji ) <;> intro _))
    · exact h2k (fun x => hv2 (x.body y (List.mem_of_getElem? hy'))) _ (z.upW _ _ (by omega))
    · exact absurd (by assumption) hc
theorem zye (cl : List ClauseD) (facts : List AtomD) (v u : Value) (h : Heap) (hl : Sl Rep.clause h v cl) (hf : Sl Rep.atom h u facts) (hn : cl.length ≤ 1000) (hcb : ∀ c ∈ cl, c.body.length ≤ 1000) (hfn : facts.length ≤ 1000) (K : Value → Heap → Prop) (h1k : MayX cl facts → ∀ h', Ext h h' → K (.bool true) h') (h2k : ¬ MayX cl facts → ∀ h', Ext h h' → K (.bool false) h') : Ok Tryz.prog tab ov 13 [v, u] h K := by
  rw [zaa h]
  have z := Ext.refl h
  have hva := zaI v
  have hvu := zaI u
  have hlv := fun (hh : Heap) => hl.lenA ds32 hh
  have hlu := fun (hh : Heap) => hf.lenA ds27 hh
  refine Ok.into rfl zvM (zaB N13) rfl (m := 29) rfl ?_
  simp -implicitDefEqProofs only [syms, symx, seval, c13]
  obtain ⟨I1, hI1⟩ : ∃ I : Nat → Env → Heap → Prop, I = (fun n e h' => ∃ (i : Nat) (h1 : Heap), h' = h1.lay [] h1.low ∧ Ext h h1 ∧ (n = cl.length - i ∧ i ≤ cl.length ∧ (∀ c ∈ cl.take i, OneX c)) ∧ ∃ J : Nat → Value, e = (v :: u :: jr J 2 3 (.int .i64 i :: jr J 6 25 ([])))) := ⟨_, rfl⟩
  refine zat I1 _ (by rw [hI1]; exact ⟨0, _, rfl, z, ⟨rfl, by omega, by simp⟩, junk (by kernel_rfl)⟩) ?_
  intro n e h' hin
  rw [hI1] at hin
  obtain ⟨i, h1', rfl, z, hinv, J, rfl⟩ := hin
  obtain ⟨rfl, hi, hall⟩ := hinv
  have hw : IntKind.i64.wrap ((i : Int) + 1) = ((i + 1 : Nat) : Int) := by rw [zae (by omega) (by omega)]; omega
  simp -implicitDefEqProofs only [syms, symx, seval, c13, hva, hlv]
  refine zaw (fun hlt => ?_) (fun hlt => ?_)
  · obtain ⟨r, hr, hr'⟩ := za6 (l := cl) (i := i) (by omega)
    repeat' (first | simp -implicitDefEqProofs only [syms, symx, seval, c13, hva] | with_reducible_and_instances refine ztA (hl.mono z.inc) ds32 sz29 (by omega) hr (fun p bd hbd hp => ?_) | with_reducible_and_instances refine ldc hp ag29 sz29 ?_)
    refine zyr r _ _ (Sl.lay (by assumption) _ _) (hcb r (List.mem_of_getElem? hr')) _ (fun ho h' x => ?_) (fun ho h' x => ?_)
    · ((skip); replace z := z.overW x (by (try simp only [lsz]); omega); rw [zaa h'])
      repeat' (first | simp -implicitDefEqProofs only [syms, symx, seval, c13, Bool.not_true] | ((with_reducible_and_instances apply zaf); (· rfl)))
      rw [hw]
      (rw [hI1]; with_reducible refine zac (m := _) ?_ ⟨i + 1, _, rfl, z, ⟨rfl, by omega, za7 (i := i) (P := OneX) hr' hall ho⟩, junk (by kernel_rfl)⟩; omega)
    · ((skip); replace z := z.overW x (by (try simp only [lsz]); omega); rw [zaa h'])
      repeat' (first | simp -implicitDefEqProofs only [syms, symx, seval, c13, Bool.not_false] | ((with_reducible_and_instances apply zaf); (· rfl)))
      exact h2k (fun x => ho (x.clauses r (List.mem_of_getElem? hr'))) _ (z.upW _ _ (by omega))
  rw [List.take_of_length_le (by omega)] at hall
  repeat' ( simp -implicitDefEqProofs only [syms, symx, seval, c13])
  obtain ⟨I2, hI2⟩ : ∃ I : Nat → Env → Heap → Prop, I = (fun n e h' => ∃ (k : Nat) (h1 : Heap), h' = h1.lay [] h1.low ∧ Ext h h1 ∧ (n = facts.length - k ∧ k ≤ facts.length ∧ (∀ a ∈ facts.take k, FactX a)) ∧ ∃ J : Nat → Value, e = (v :: u :: jr J 2 4 (.int .i64 k :: jr J 7 24 ([])))) := ⟨_, rfl⟩
  refine zat I2 _ (by rw [hI2]; exact ⟨0, _, rfl, z, ⟨rfl, by omega, by simp⟩, junk (by kernel_rfl)⟩) ?_
  intro n e h' hin
  rw [hI2] at hin
  obtain ⟨k, h1', rfl, z, hinv, J, rfl⟩ := hin
  obtain ⟨rfl, hk1, hfa⟩ := hinv
  have hwk : IntKind.i64.wrap ((k : Int) + 1) = ((k + 1 : Nat) : Int) := by rw [zae (by omega) (by omega)]; omega
  simp -implicitDefEqProofs only [syms, symx, seval, c13, hvu, hlu]
  refine zaw (fun hlt2 => ?_) (fun hlt2 => ?_)
  rotate_left
  · rw [List.take_of_length_le (by omega)] at hfa
    repeat' ( simp -implicitDefEqProofs only [syms, symx, seval, c13])
    exact h1k ⟨hall, hfa⟩ _ (z.upW _ _ (by omega))
  obtain ⟨y, hy, hy'⟩ := za6 (l := facts) (i := k) (by omega)
  repeat' (first | simp -implicitDefEqProofs only [syms, symx, seval, c13, hvu] | with_reducible_and_instances refine zee (hf.mono z.inc) ds27 sz26 (by omega) hy (fun p hp => ?_) | with_reducible_and_instances refine lda hp ag26 sz26 ?_)
  refine zu5 y _ _ (fun hv2 h' x => ?_) (fun hv2 h' x => ?_)
  · ((skip); replace z := z.overW x (by (try simp only [lsz]); omega); rw [zaa h'])
    repeat' (first | simp -implicitDefEqProofs only [syms, symx, seval, c13, Bool.not_true] | ((with_reducible_and_instances apply zaf); (· rfl)))
    rw [hwk]
    (rw [hI2]; with_reducible refine zac (m := _) ?_ ⟨k + 1, _, rfl, z, ⟨rfl, by omega, za7 (i := k) (P := FactX) hy' hfa hv2⟩, junk (by kernel_rfl)⟩; omega)
  · ((skip); replace z := z.overW x (by (try simp only [lsz]); omega); rw [zaa h'])
    repeat' (first | simp -implicitDefEqProofs only [syms, symx, seval, c13, Bool.not_false] | ((with_reducible_and_instances apply zaf); (· rfl)))
    exact h2k (fun x => hv2 (x.facts y (List.mem_of_getElem? hy'))) _ (z.upW _ _ (by omega))
theorem ziS (l : List BindD) (v : Value) (s : ByteArray) (h : Heap) (hl : Sl Rep.bind h v l) (hs : l.length ≤ 1000) (K : Value → Heap → Prop)
    (hk : ∀ h', Ext h h' → K (.tuple #[(zaC l s).1.val, .bool (zaC l s).2]) h') : Ok Tryz.prog tab ov 63 [v, .string s] h K := by
  rw [zaa h]
  have z := Ext.refl h
  have hva := zaI v
  have hlv := fun (hh : Heap) => hl.lenA ds36 hh
  refine Ok.into rfl zwE (zaB N63) rfl (m := 24) rfl ?_
  repeat' ( simp -implicitDefEqProofs only [syms, symx, seval, c63])
  refine zeg (fun h' x hq => ?_)
  have q0 := hq 0 _ rfl
  clear hq
  (replace z := z.overW x (by (try simp only [lsz]); omega); rw [zaa h'])
  have hz0 := z.size
  obtain ⟨A0, hA0⟩ : ∃ A0, A0 = h.size + 0 := ⟨_, rfl⟩
  rw [← hA0] at q0
  rw [← hA0]
  obtain ⟨I1, hI1⟩ : ∃ I : Nat → Env → Heap → Prop, I = (fun n e h' => ∃ (i : Nat) (h1 : Heap), h' = h1.lay [] h1.low ∧ Ext h h1 ∧ (n = l.length - i ∧ i ≤ l.length ∧ (∀ y ∈ l.take i, y.var ≠ s) ∧ Holds h1 A0 (.row [.bool false, .string ⟨#[]⟩] 23 false)) ∧ ∃ J : Nat → Value, e = (v :: .string s :: jr J 2 2 (.pointer (some ⟨A0, 0, none⟩) :: J 5 :: .int .i64 i :: jr J 7 19 ([])))) := ⟨_, rfl⟩
  refine zat I1 _ (by rw [hI1]; exact ⟨0, _, rfl, z, ⟨rfl, by omega, by simp, q0⟩, junk (by kernel_rfl)⟩) ?_
  intro n e h' hin
  rw [hI1] at hin
  obtain ⟨i, h1', rfl, z, hinv, J, rfl⟩ := hin
  clear q0
  obtain ⟨rfl, hi, hlow, q0⟩ := hinv
  have hw : IntKind.i64.wrap ((i : Int) + 1) = ((i + 1 : Nat) : Int) := by rw [zae (by omega) (by omega)]; omega
  have hz := z.size
  simp -implicitDefEqProofs only [syms, symx, seval, c63, hva, hlv]
  refine zaw (fun hlt => ?_) (fun hlt => ?_)
  rotate_left
  · repeat' ( simp -implicitDefEqProofs only [syms, symx, seval, c63, zj2, zaK])
    refine zcO q0 sz23 rfl rfl rfl (fun h' q0' c => ?_)
    replace z := (z.upW _ _ (by omega)).step c (by omega)
    rw [zaa h']
    simp -implicitDefEqProofs only [syms, symx, seval, c63, q0'.lay, zba, ↓zcX, zbI, zaK]
    have hno := zmd (l := l) (s := s) (fun y hy => hlow y (by rw [List.take_of_length_le (by omega)]; exact hy))
    rw [hno] at hk
    exact hk _ (z.upW _ _ (by omega))
  obtain ⟨r, hr, hr'⟩ := za6 (l := l) (i := i) (by omega)
  repeat' (first | simp -implicitDefEqProofs only [syms, symx, seval, c63, hva] | ((with_reducible  apply zaw ) <;> intro _) | with_reducible_and_instances refine zcT (hl.mono z.inc) ds36 zcB (by omega) hr (fun p hp => ?_) | with_reducible_and_instances refine fdb0 hp zbH (fun q hq => ?_) | with_reducible_and_instances refine fdb1 hp zcR (fun p hp => ?_) | with_reducible_and_instances refine zcU hq ag9 ?_ | with_reducible_and_instances refine ldt hp ag23 sz23 ?_)
  · refine zcO q0 sz23 rfl rfl rfl (fun h' q0' c => ?_)
    replace z := (z.upW _ _ (by omega)).step c (by omega)
    rw [zaa h']
    simp -implicitDefEqProofs only [syms, symx, seval, c63, q0'.lay, zba, ↓zcX, zbI, zaK]
    have hat := zmS hr' hlow (by assumption)
    rw [hat] at hk
    exact hk _ (z.upW _ _ (by omega))
  · rw [hw]
    (rw [hI1]; with_reducible refine zac (m := _) ?_ ⟨i + 1, _, rfl, z, ⟨rfl, by omega, za7 (i := i) (P := fun y : BindD => y.var ≠ s) hr' hlow (by assumption), q0⟩, junk (by kernel_rfl)⟩; omega)
theorem zsS (t : TermD) : t.cells[0]? = some (.bool t.v) := rfl
theorem zsY (t : TermD) : t.cells[1]? = some (.string t.s) := rfl
def zx9 : BindD := ⟨⟨#[]⟩, noTermD⟩
theorem zkx (l : List BindD) (v : Value) (t : TermD) (h : Heap) (hl : Sl Rep.bind h v l) (hs : l.length ≤ 1000) (K : Value → Heap → Prop)
    (hk : ∀ h', Ext h h' → K (zbc l t).val h') : Ok Tryz.prog tab ov 67 [v, t.val] h K := by
  rw [zaa h]
  have z := Ext.refl h
  have hva := zaI v
  refine Ok.into rfl zvl (zaB N67) rfl (m := 17) rfl ?_
  simp -implicitDefEqProofs only [syms, symx, seval, c67, zba, zsS, zsY]
  refine zfU (fun hv => ?_) (fun hv => ?_)
  rotate_left
  · have e : zbc l t = t := by unfold zbc; rw [if_neg (by rw [hv]; simp)]
    rw [e] at hk
    repeat' ( simp -implicitDefEqProofs only [syms, symx, seval, c67, zba, ↓zcX, zbI, zaK])
    refine ztg (i := 1) (by rfl) sz23 (by rfl) (zba t) rfl rfl ?_
    simp -implicitDefEqProofs only [syms, symx, seval, c67, ↓zcX, zbI, zaK]
    exact hk _ (z.upW _ _ (by omega))
  repeat' ( simp -implicitDefEqProofs only [syms, symx, seval, c67, zba, zsS, zsY, hva])
  refine ziS l v t.s _ (hl.lay _ _) hs _ (fun h' x => ?_)
  have q0 := Holds.top (i := 0) x rfl
  have q1 := Holds.top (i := 1) x rfl
  ((skip); replace z := z.overW x (by (try simp only [lsz]); omega); rw [zaa h'])
  have hz := z.size
  have e : zbc l t = if (zaC l t.s).2 = true then (zaC l t.s).1 else t := by unfold zbc; rw [hv]; simp
  rw [e] at hk
  rcases hg : zaC l t.s with ⟨⟨tv, ts⟩, pb⟩
  rw [hg] at hk
  cases pb
  all_goals
    repeat' ( simp -implicitDefEqProofs only [syms, symx, seval, c67, zaF, zaq, List.all_cons, List.all_nil, Am.one, Bool.and_true, Bool.true_and, Bool.and_self, List.set_cons_zero, List.set_cons_succ, st4, st3, st9, st23, st26, st29, zbF, q0.lay, q1.lay, zba, TermD.val, TermD.cells, ↓zcX, zbI, zaK])
  all_goals
    refine zcO q1 sz23 rfl rfl rfl (fun h2' q1' c => ?_)
    replace z := (z.upW _ _ (by omega)).step c (by omega)
    rw [zaa h2']
    simp -implicitDefEqProofs only [syms, symx, seval, c67, q1'.lay, ↓zcX, zbI, zaK, TermD.cells]
    exact hk _ (z.upW _ _ (by omega))
theorem zlP (l : List BindD) (v : Value) (h : Heap) (hl : Sl Rep.bind h v l) (hs : l.length ≤ 1000) (K : Value → Heap → Prop)
    (hk : ∀ h' e, Ext h h' → (e = 0 ↔ ChkD l) → K (.int .i64 e) h') : Ok Tryz.prog tab ov 60 [v] h K := by
  rw [zaa h]
  have z := Ext.refl h
  have hva := zaI v
  have hlv := fun (hh : Heap) => hl.lenA ds36 hh
  have hno : ¬ ChkD l → ∀ h', Ext h h' → K (.int .i64 15) h' := fun hn h' x => hk h' 15 x ⟨fun hh => absurd hh (by decide), fun hh => absurd hh hn⟩
  refine Ok.into rfl zvw (zaB N60) rfl (m := 54) rfl ?_
  simp -implicitDefEqProofs only [syms, symx, seval, c60]
  obtain ⟨I1, hI1⟩ : ∃ I : Nat → Env → Heap → Prop, I = (fun n e h' => ∃ (i : Nat) (h1 : Heap), h' = h1.lay [] h1.low ∧ Ext h h1 ∧ (n = l.length - i ∧ i ≤ l.length ∧ zcj l i ∧ (∀ b ∈ l.take i, b.term.s ≠ ⟨#[]⟩ ∧ ¬ (b.term.v = true ∧ (zaC l b.term.s).2 = true))) ∧ ∃ J : Nat → Value, e = (v :: jr J 1 2 (.int .i64 i :: jr J 4 51 ([])))) := ⟨_, rfl⟩
  refine zat I1 _ (by rw [hI1]; exact ⟨0, _, rfl, z, ⟨rfl, by omega, ze2 (by omega), by simp⟩, junk (by kernel_rfl)⟩) ?_
  intro n e h' hin
  rw [hI1] at hin
  obtain ⟨i, h1', rfl, z, hinv, J, rfl⟩ := hin
  obtain ⟨rfl, hi, hri, hall⟩ := hinv
  have hw : IntKind.i64.wrap ((i : Int) + 1) = ((i + 1 : Nat) : Int) := by rw [zae (by omega) (by omega)]; omega
  simp -implicitDefEqProofs only [syms, symx, seval, c60, hva, hlv]
  refine zaw (fun hlt => ?_) (fun hlt => ?_)
  rotate_left
  · have he : i = l.length := by omega
    rw [List.take_of_length_le (by omega)] at hall
    rw [he] at hri
    repeat' ( simp -implicitDefEqProofs only [syms, symx, seval, c60])
    exact hk _ _ (z.upW _ _ (by omega)) ⟨fun _ => ⟨hri, hall⟩, fun _ => rfl⟩
  obtain ⟨r, hr, hr'⟩ := za6 (l := l) (i := i) (by omega)
  have hmem := List.mem_of_getElem? hr'
  obtain ⟨x0, hx0, hx0'⟩ : ∃ x0, (0 < i → l[((i : Int) - 1).toNat]? = some x0) ∧ (0 < i → l[i - 1]? = some x0) := by
    by_cases h0 : 0 < i
    · have e : ((i : Int) - 1).toNat = i - 1 := by omega
      rw [e]
      exact ⟨l[i - 1]'(by omega), fun _ => List.getElem?_eq_getElem (by omega), fun _ => List.getElem?_eq_getElem (by omega)⟩
    · exact ⟨zx9, fun h => absurd h h0, fun h => absurd h h0⟩
  have hw0 : IntKind.i64.wrap ((i : Int) - 1) = (i : Int) - 1 := by rw [zae (by omega) (by omega)]
  repeat' (first | simp -implicitDefEqProofs only [syms, symx, seval, c60, hva, hw0, zns] | with_reducible refine zb2 (by simp only [c60]) (z.upW _ _ (by omega)) ?_ | ((with_reducible first | apply zaw | apply zfk) <;> intro _) | with_reducible_and_instances refine zcT (hl.mono z.inc) ds36 zcB (by omega) (hx0 (by omega)) (fun p hp => ?_) | with_reducible_and_instances refine zcT (hl.mono z.inc) ds36 zcB (by omega) hr (fun p hp => ?_) | with_reducible_and_instances refine fdb0 hp zbH (fun q hq => ?_) | with_reducible_and_instances refine fdb1 hp zcR (fun p hp => ?_) | with_reducible_and_instances refine fdt0 hp zdl (fun q hq => ?_) | with_reducible_and_instances refine fdt1 hp zcr (fun q hq => ?_) | with_reducible_and_instances refine zcU hq ag9 ?_ | with_reducible_and_instances refine zcU hq ag4 ?_ | ((with_reducible refine ⟨z.grw.lay _ _, ?_⟩); (intro _ h' zz x _); (try simp only [zas, List.append_nil] at x); (replace z := zz); (clear zz); rw [zaa h']))
  all_goals try
    ((with_reducible refine hno (fun hh => ?_) _ (z.upW _ _ (by omega)))
     first
       | exact (hh.2 r hmem).1 (by assumption)
       | (have hq1 := zf9 hh.1 (i := i - 1) (j := i) (by omega) (hx0' (by omega)) hr'
          simp_all))
  all_goals
    have hri2 : zcj l (i + 1) := by
      first
        | exact ziU hri (by omega) (hx0' (by omega)) hr' (by assumption)
        | exact ze2 (by omega)
    have hne : r.term.s ≠ ⟨#[]⟩ := by assumption
    refine zn9 (fun hv => ?_) (fun hv => ?_)
    rotate_left
    · have hnx : ∀ b ∈ l.take (i + 1), b.term.s ≠ ⟨#[]⟩ ∧ ¬ (b.term.v = true ∧ (zaC l b.term.s).2 = true) := za7 (i := i) (P := fun b : BindD => b.term.s ≠ ⟨#[]⟩ ∧ ¬ (b.term.v = true ∧ (zaC l b.term.s).2 = true)) hr' hall ⟨hne, by rw [hv]; simp⟩
      repeat' ( simp -implicitDefEqProofs only [syms, symx, seval, c60, hva])
      rw [hw]
      (rw [hI1]; with_reducible refine zac (m := _) ?_ ⟨i + 1, _, rfl, z, ⟨rfl, by omega, hri2, hnx⟩, junk (by kernel_rfl)⟩; omega)
    rcases hg : zaC l r.term.s with ⟨⟨tv, ts⟩, pb⟩
    clear hp hq
    repeat' (first | simp -implicitDefEqProofs only [syms, symx, seval, c60, hva] | with_reducible_and_instances refine zcT (hl.mono z.inc) ds36 zcB (by omega) hr (fun p hp => ?_) | with_reducible_and_instances refine fdb1 hp zcR (fun p hp => ?_) | with_reducible_and_instances refine fdt1 hp zcr (fun q hq => ?_) | with_reducible_and_instances refine zcU hq ag9 ?_)
    refine ziS l v r.term.s _ ((hl.mono z.inc).lay _ _) hs _ (fun h' x => ?_)
    rw [hg]
    (( skip); replace z := z.overW x (by (try simp only [lsz]); omega); rw [zaa h'])
    cases pb
    all_goals
      repeat' ( simp -implicitDefEqProofs only [syms, symx, seval, c60, zaF, zaq, List.all_cons, List.all_nil, Am.one, Bool.and_true, Bool.true_and, Bool.and_self, List.set_cons_zero, List.set_cons_succ, st4, st3, st9, st23, st26, st29, zbF, TermD.val, TermD.cells])
    · have hnx : ∀ b ∈ l.take (i + 1), b.term.s ≠ ⟨#[]⟩ ∧ ¬ (b.term.v = true ∧ (zaC l b.term.s).2 = true) := za7 (i := i) (P := fun b : BindD => b.term.s ≠ ⟨#[]⟩ ∧ ¬ (b.term.v = true ∧ (zaC l b.term.s).2 = true)) hr' hall ⟨hne, by rw [hg]; simp⟩
      rw [hw]
      refine zml (z.upW _ _ (by omega)) (fun H z => ?_)
      (rw [hI1]; with_reducible refine zac (m := _) ?_ ⟨i + 1, _, rfl, z, ⟨rfl, by omega, hri2, hnx⟩, junk (by kernel_rfl)⟩; omega)
    · exact hno (fun hh => (hh.2 r hmem).2 ⟨hv, by rw [hg]⟩) _ (z.upW _ _ (by omega))
theorem zdS (b : BindD) (z0 z1 z2 : Value) : zdP (fun i => some (i * 3, 3)) [z0, z1, z2] [(0, b.val)] = some b.cells := rfl
theorem zxW (l : List BindD) (v : Value) (b : BindD) (h : Heap) (hl : Sl Rep.bind h v l) (hs : l.length ≤ 1000) (K : Value → Heap → Prop)
    (hk : ∀ h' w A, Ext h h' → Ow Rep.bind h h' 141 A w (zcQ l b) → K w h') : Ok Tryz.prog tab ov 101 [v, b.val] h K := by
  rw [zaa h]
  have z := Ext.refl h
  have hva := zaI v
  have hlv := fun (hh : Heap) => hl.lenA ds36 hh
  refine Ok.into rfl zsZ (zaB N101) rfl (m := 42) rfl ?_
  repeat' ( simp -implicitDefEqProofs only [syms, symx, seval, c101, zjV])
  refine zeg (fun h' x hq => ?_)
  have q0 := hq 0 _ rfl
  clear hq
  (replace z := z.overW x (by (try simp only [lsz]); omega); rw [zaa h'])
  have hz0 := z.size
  obtain ⟨A0, hA0⟩ : ∃ A0, A0 = h.size + 0 := ⟨_, rfl⟩
  rw [← hA0] at q0
  rw [← hA0]
  have hbc : b.cells = [.string b.var, .bool b.term.v, .string b.term.s] := rfl
  obtain ⟨I1, hI1⟩ : ∃ I : Nat → Env → Heap → Prop, I = (fun n e h' => ∃ (i : Nat) (wv : Value) (A : Nat) (o : List BindD) (c : Bool) (h1 : Heap), h' = h1.lay [] h1.low ∧ Ext h h1 ∧ (n = l.length - i ∧ i ≤ l.length ∧ (c = false → o = l.take i ∧ ∀ y ∈ l.take i, slt b.var y.var = false) ∧ (c = true → o ++ l.drop i = zcQ l b) ∧ o.length ≤ i + 1 ∧ Ow Rep.bind h h1 141 A wv o ∧ A ≠ A0 ∧ Holds h1 A0 (.row b.cells 141 false)) ∧ ∃ J : Nat → Value, e = (v :: jr J 1 2 (.pointer (some ⟨A0, 0, none⟩) :: J 4 :: wv :: .bool c :: .int .i64 i :: jr J 8 36 ([])))) := ⟨_, rfl⟩
  refine zat I1 _ (by rw [hI1]; exact ⟨0, .slice none 0 0, A0 + 1, [], false, _, rfl, z, ⟨rfl, by omega, by simp, by simp, by simp, Ow.nil (by omega), by omega, q0⟩, junk (by kernel_rfl)⟩) ?_
  intro n e h' hin
  rw [hI1] at hin
  obtain ⟨i, wv, A, o, c, h1', rfl, z, hinv, J, rfl⟩ := hin
  clear q0
  obtain ⟨rfl, hi, hno, hin, hol, ow, hAA, q0⟩ := hinv
  have hw : IntKind.i64.wrap ((i : Int) + 1) = ((i + 1 : Nat) : Int) := by rw [zae (by omega) (by omega)]; omega
  have hvw := zaI wv
  have hz := z.size
  simp -implicitDefEqProofs only [syms, symx, seval, c101, hva, hlv]
  refine zaw (fun hlt => ?_) (fun hlt => ?_)
  rotate_left
  · have he : i = l.length := by omega
    cases c
    · obtain ⟨ho, hall⟩ := hno rfl
      rw [List.take_of_length_le (by omega)] at ho hall
      have hend := zsE (b := b) hall
      repeat' (first | simp -implicitDefEqProofs only [syms, symx, seval, c101, hvw, q0.lay, ↓zki, zkz, zeA, Bool.not_false] | ((with_reducible_and_instances apply zaf); (· rfl)))
      simp -implicitDefEqProofs only [syms, symx, seval, c101, zbg, zij, zdS]
      refine zgX (i := 0) (cs := b.cells) (x := b) ds36 za0 rfl (by decide) (by rfl) z.size ow rfl (by omega) (by omega) (fun w' h2 A' ow2 cg hA2 => ?_)
      have hfA := ow.fresh
      replace z := (z.upW _ _ (by omega)).step cg (by omega)
      rw [zaa h2]
      have hvw2 : ∀ (h : Heap) (K : Value → Heap → Prop), valE (some w') h K = K w' h := fun _ _ => rfl
      repeat' ( simp -implicitDefEqProofs only [syms, symx, seval, c101, hvw2])
      rw [ho, ← hend] at ow2
      exact hk _ _ _ (z.upW _ _ (by omega)) (ow2.mono (Inc.lay _ _ _))
    · have hin2 := hin rfl
      rw [List.drop_of_length_le (by omega), List.append_nil] at hin2
      rw [hin2] at ow
      repeat' (first | simp -implicitDefEqProofs only [syms, symx, seval, c101, hvw, Bool.not_true] | ((with_reducible_and_instances apply zaf); (· rfl)))
      exact hk _ _ _ (z.upW _ _ (by omega)) (ow.mono (Inc.lay _ _ _))
  obtain ⟨r, hr, hr'⟩ := za6 (l := l) (i := i) (by omega)
  have htk : l.take (i + 1) = l.take i ++ [r] := by rw [List.take_add_one, hr']; rfl
  have hdr : l.drop i = r :: l.drop (i + 1) := by
    obtain ⟨hh, he⟩ := List.getElem?_eq_some_iff.1 hr'
    rw [← he]
    exact List.drop_eq_getElem_cons hh
  cases c
  · obtain ⟨ho, hall⟩ := hno rfl
    repeat' (first | simp -implicitDefEqProofs only [syms, symx, seval, c101, hva, Bool.not_false, q0.lay, hbc, zsa] | with_reducible refine zb2 (by simp only [c101]) (z.upW _ _ (by omega)) ?_ | with_reducible_and_instances refine zcT (hl.mono z.inc) ds36 zcB (by omega) hr (fun p hp => ?_) | with_reducible_and_instances refine fdb0 hp zbH (fun q hq => ?_) | with_reducible_and_instances refine zcU hq ag9 ?_ | ((with_reducible_and_instances apply zaf); (· rfl)))
    refine zfU (fun hs2 => ?_) (fun hs2 => ?_)
    · have hhere := zq7 hall hr' hs2
      have hfA := ow.fresh
      repeat' (first | simp -implicitDefEqProofs only [syms, symx, seval, c101, hva, q0.lay, ↓zki, zkz, zeA] | ((with_reducible refine ⟨z.grw.lay _ _, ?_⟩); (intro _ h' zz x _); (try simp only [zas, List.append_nil] at x); (try replace q0 := q0.over x); (try replace ow := ow.over x); (replace z := zz); (clear zz); rw [zaa h']))
      skip
      simp -implicitDefEqProofs only [syms, symx, seval, c101, zbg, zij, zdS]
      refine zgX (i := 0) (cs := b.cells) (x := b) ds36 za0 rfl (by decide) (by rfl) z.size ow rfl (by omega) (by omega) (fun w' h2 A' ow2 cg hA2 => ?_)
      have q0l0 := q0.lt
      have q02 := q0.stepL cg (Ne.symm hAA)
      replace z := (z.upW _ _ (by omega)).step cg (by omega)
      rw [zaa h2]
      have hvw2 : ∀ (h : Heap) (K : Value → Heap → Prop), valE (some w') h K = K w' h := fun _ _ => rfl
      have hz2 := z.size
      have hf2 := ow2.fresh
      have q0l := q02.lt
      clear hp hq
      repeat' (first | simp -implicitDefEqProofs only [syms, symx, seval, c101, hvw2, hva] | with_reducible_and_instances refine zcT (hl.mono z.inc) ds36 zcB (by omega) hr (fun p hp => ?_) | with_reducible_and_instances refine ldb hp zqU zcB ?_)
      simp -implicitDefEqProofs only [syms, symx, seval, c101, zbg, zij, zdS]
      refine zgX (i := 0) (cs := r.cells) (x := r) ds36 za0 rfl (by decide) (by rfl) z.size ow2 rfl (by rw [List.length_append, List.length_singleton]; omega) (by rw [List.length_append, List.length_singleton]; omega) (fun w3 h3 A3 ow3 cg3 hA3 => ?_)
      have q03 := q02.stepL cg3 (by omega)
      replace z := (z.upW _ _ (by omega)).step cg3 (by omega)
      rw [zaa h3]
      have hvw3 := zaI w3
      repeat' ( simp -implicitDefEqProofs only [syms, symx, seval, c101, hvw3])
      rw [hw]
      rw [ho] at ow3
      clear q0 ow q02 ow2 hin
      have hnew : l.take i ++ [b] ++ [r] ++ l.drop (i + 1) = zcQ l b := by rw [hhere, hdr]; simp
      have hf3 := ow3.fresh
      (rw [hI1]; with_reducible refine zac (m := _) ?_ ⟨i + 1, w3, A3, l.take i ++ [b] ++ [r], true, _, rfl, z, ⟨rfl, by omega, nofun, fun _ => hnew, by simp only [List.length_append, List.length_singleton, List.length_take]; omega, ow3, by omega, q03⟩, junk (by kernel_rfl)⟩; omega)
    · have hfA := ow.fresh
      clear hp hq
      repeat' (first | simp -implicitDefEqProofs only [syms, symx, seval, c101, hva] | with_reducible_and_instances refine zcT (hl.mono z.inc) ds36 zcB (by omega) hr (fun p hp => ?_) | with_reducible_and_instances refine ldb hp zqU zcB ?_ | ((with_reducible refine ⟨z.grw.lay _ _, ?_⟩); (intro _ h' zz x _); (try simp only [zas, List.append_nil] at x); (try replace q0 := q0.over x); (try replace ow := ow.over x); (replace z := zz); (clear zz); rw [zaa h']))
      have hz2 := z.size
      skip
      simp -implicitDefEqProofs only [syms, symx, seval, c101, zbg, zij, zdS]
      refine zgX (i := 0) (cs := r.cells) (x := r) ds36 za0 rfl (by decide) (by rfl) z.size ow rfl (by omega) (by omega) (fun w3 h3 A3 ow3 cg3 hA3 => ?_)
      have q03 := q0.stepL cg3 (Ne.symm hAA)
      have q0l := q0.lt
      replace z := (z.upW _ _ (by omega)).step cg3 (by omega)
      rw [zaa h3]
      have hvw3 := zaI w3
      repeat' ( simp -implicitDefEqProofs only [syms, symx, seval, c101, hvw3])
      rw [hw]
      rw [ho, ← htk] at ow3
      clear q0 ow hin
      have hall2 : ∀ y ∈ l.take (i + 1), slt b.var y.var = false := za7 (i := i) (P := fun y : BindD => slt b.var y.var = false) hr' hall hs2
      (rw [hI1]; with_reducible refine zac (m := _) ?_ ⟨i + 1, w3, A3, l.take (i + 1), false, _, rfl, z, ⟨rfl, by omega, fun _ => ⟨rfl, hall2⟩, nofun, by rw [List.length_take]; omega, ow3, by omega, q03⟩, junk (by kernel_rfl)⟩; omega)
  · have hin2 := hin rfl
    have hfA := ow.fresh
    repeat' (first | simp -implicitDefEqProofs only [syms, symx, seval, c101, hva, Bool.not_true] | with_reducible refine zb2 (by simp only [c101]) (z.upW _ _ (by omega)) ?_ | with_reducible_and_instances refine zcT (hl.mono z.inc) ds36 zcB (by omega) hr (fun p hp => ?_) | with_reducible_and_instances refine ldb hp zqU zcB ?_ | ((with_reducible_and_instances apply zaf); (· rfl)) | ((with_reducible refine ⟨z.grw.lay _ _, ?_⟩); (intro _ h' zz x _); (try simp only [zas, List.append_nil] at x); (try replace q0 := q0.over x); (try replace ow := ow.over x); (replace z := zz); (clear zz); rw [zaa h']))
    have hz2 := z.size
    skip
    simp -implicitDefEqProofs only [syms, symx, seval, c101, zbg, zij, zdS]
    refine zgX (i := 0) (cs := r.cells) (x := r) ds36 za0 rfl (by decide) (by rfl) z.size ow rfl (by omega) (by omega) (fun w3 h3 A3 ow3 cg3 hA3 => ?_)
    have q03 := q0.stepL cg3 (Ne.symm hAA)
    have q0l := q0.lt
    replace z := (z.upW _ _ (by omega)).step cg3 (by omega)
    rw [zaa h3]
    have hvw3 := zaI w3
    repeat' ( simp -implicitDefEqProofs only [syms, symx, seval, c101, hvw3])
    rw [hw]
    clear q0 ow hno
    have hnew : o ++ [r] ++ l.drop (i + 1) = zcQ l b := by rw [← hin2, hdr]; simp
    (rw [hI1]; with_reducible refine zac (m := _) ?_ ⟨i + 1, w3, A3, o ++ [r], true, _, rfl, z, ⟨rfl, by omega, nofun, fun _ => hnew, by rw [List.length_append, List.length_singleton]; omega, ow3, by omega, q03⟩, junk (by kernel_rfl)⟩; omega)
theorem zyj {h : Heap} {A : Nat} {b : BindD} {u : TypeId} {ro : Bool} (q : Holds h A (.row b.cells u ro)) : Sl Rep.bind h (.slice (some ⟨A, 0, none⟩) 1 1) [b] := by
  refine .inr ⟨A, 0, 1, b.cells, u, ro, rfl, (by show 1 ≤ maxLen; decide), .inl ⟨by decide, Nat.le_refl _⟩, q.lt, q.get, fun i x hx => ?_⟩
  cases i with
  | zero =>
    simp at hx
    subst hx
    exact ⟨_, rfl, rfl⟩
  | succ i => simp at hx
theorem zvk (l : List BindD) (v : Value) (s : ByteArray) (t : TermD) (h : Heap) (hl : Sl Rep.bind h v l) (hs : l.length ≤ 900) (K : Value → Heap → Prop)
    (hk : ∀ h' w e, Ext h h' → (zd9 l s t = none → e ≠ 0) → (∀ m, zd9 l s t = some m → e = 0 ∧ ∃ A, Ow Rep.bind h h' 141 A w m) → K (.tuple #[w, .int .i64 e]) h') : Ok Tryz.prog tab ov 64 [v, .string s, t.val] h K := by
  rw [zaa h]
  have z := Ext.refl h
  have hva := zaI v
  have hlv := fun (hh : Heap) => hl.lenA ds36 hh
  rcases hg : zaC l s with ⟨⟨tv, ts⟩, pb⟩
  obtain ⟨x, hx⟩ : ∃ x, x = zbc l t := ⟨_, rfl⟩
  rcases x with ⟨xv, xs⟩
  unfold zd9 at hk
  rw [hg, ← hx] at hk
  refine Ok.into rfl zvt (zaB N64) rfl (m := 70) rfl ?_
  repeat' ( simp -implicitDefEqProofs only [syms, symx, seval, c64, zba])
  refine zlP l _ _ (hl.lay _ _) (by omega) _ (fun h' e x he => ?_)
  have q0 := Holds.top (i := 0) x rfl
  (( skip); replace z := z.overW x (by (try simp only [lsz]); omega); rw [zaa h'])
  simp -implicitDefEqProofs only [syms, symx, seval, c64]
  refine zp1 ?_ ?_
  · intro hne
    repeat' ( simp -implicitDefEqProofs only [syms, symx, seval, c64])
    have hbad : ¬ ChkD l := fun hh => hne (he.2 hh)
    rw [if_pos hbad] at hk
    exact hk _ _ _ (z.upW _ _ (by omega)) (fun _ => by decide) (fun m hm => by cases hm)
  intro he0
  have hC := he.1 he0
  rw [if_neg (by simpa using hC)] at hk
  repeat' (first | simp -implicitDefEqProofs only [syms, symx, seval, c64, q0.lay, TermD.cells] | ((with_reducible  apply zaw ) <;> intro _))
  all_goals try
    (have h1 : s = ⟨#[]⟩ ∨ t.s = ⟨#[]⟩ := by first | exact .inl (by assumption) | exact .inr (by assumption) | exact .inl (Eq.symm (by assumption)) | exact .inr (Eq.symm (by assumption))
     rw [if_pos h1] at hk
     with_reducible refine hk _ _ _ (z.upW _ _ (by omega)) (fun _ => by decide) (fun m hm => by cases hm))
  have h1 : ¬ (s = ⟨#[]⟩ ∨ t.s = ⟨#[]⟩) := by rintro (e | e) <;> first | contradiction | exact absurd e.symm (by assumption)
  rw [if_neg h1] at hk
  refine ziS l _ s _ ((hl.mono z.inc).lay _ _) (by omega) _ (fun h' x => ?_)
  rw [hg]
  (( skip); replace z := z.overW x (by (try simp only [lsz]); omega); (try replace q0 := q0.over x); rw [zaa h'])
  cases pb
  rotate_left
  · repeat' ( simp -implicitDefEqProofs only [syms, symx, seval, c64, zaF, zaq, List.all_cons, List.all_nil, Am.one, Bool.and_true, Bool.true_and, Bool.and_self, List.set_cons_zero, List.set_cons_succ, st4, st3, st9, st23, st26, st29, zbF, TermD.val, TermD.cells])
    rw [if_pos rfl] at hk
    exact hk _ _ _ (z.upW _ _ (by omega)) (fun _ => by decide) (fun m hm => by cases hm)
  rw [if_neg (by simp)] at hk
  repeat' ( simp -implicitDefEqProofs only [syms, symx, seval, c64, zaF, zaq, List.all_cons, List.all_nil, Am.one, Bool.and_true, Bool.true_and, Bool.and_self, List.set_cons_zero, List.set_cons_succ, st4, st3, st9, st23, st26, st29, zbF, hva, q0.lay, TermD.val, TermD.cells])
  refine zkx l v t _ ((hl.mono z.inc).lay _ _) (by omega) _ (fun h' x => ?_)
  rw [← hx]
  (( skip); replace z := z.overW x (by (try simp only [lsz]); omega); (try replace q0 := q0.over x); rw [zaa h'])
  simp -implicitDefEqProofs only [syms, symx, seval, c64, zaF, zaq, List.all_cons, List.all_nil, Am.one, Bool.and_true, Bool.true_and, Bool.and_self, List.set_cons_zero, List.set_cons_succ, st4, st3, st9, st23, st26, st29, zbF, hva, q0.lay, TermD.val, TermD.cells, zi3]
  repeat' ((first | ((with_reducible  apply zaw ) <;> intro _) | with_reducible refine zfU (fun _ => ?_) (fun _ => ?_)) <;> simp -implicitDefEqProofs only [syms, symx, seval, c64, zaF, zaq, List.all_cons, List.all_nil, Am.one, Bool.and_true, Bool.true_and, Bool.and_self, List.set_cons_zero, List.set_cons_succ, st4, st3, st9, st23, st26, st29, zbF, hva, q0.lay, TermD.val, TermD.cells, zi3])
  all_goals try
    (have hown : ownD ⟨s, ⟨xv, xs⟩⟩ = true := by unfold ownD; simp [*]
     rw [if_pos hown] at hk
     with_reducible refine hk _ _ _ (z.upW _ _ (by omega)) (fun _ => by decide) (fun m hm => by cases hm))
  all_goals
    have hown : ownD ⟨s, ⟨xv, xs⟩⟩ = false := by unfold ownD; simp [*]
    rw [if_neg (by rw [hown]; decide)] at hk
    obtain ⟨A1, hA1⟩ : ∃ A, A = h'.size + 0 := ⟨_, rfl⟩
    obtain ⟨A2, hA2⟩ : ∃ A, A = h'.size + 1 := ⟨_, rfl⟩
    have hz0 := z.size
    refine zeg (fun h' x hq => ?_)
    have q1 := hq 0 _ rfl
    have q2 := hq 1 _ rfl
    clear hq
    (replace z := z.overW x (by (try simp only [lsz]); omega); (try replace q0 := q0.over x); rw [zaa h'])
    rw [← hA2] at q2
    rw [← hA1, ← hA2]
    clear q0 q1
    have q2l := q2.lt
    obtain ⟨I1, hI1⟩ : ∃ I : Nat → Env → Heap → Prop, I = (fun n e h' => ∃ (i : Nat) (w : Value) (A : Nat) (h1 : Heap), h' = h1.lay [] h1.low ∧ Ext h h1 ∧ (n = l.length - i ∧ i ≤ l.length ∧ Ow Rep.bind h h1 141 A w (zca (l.take i) [⟨s, ⟨xv, xs⟩⟩]) ∧ A ≠ A2 ∧ Holds h1 A2 (.row (BindD.cells ⟨s, ⟨xv, xs⟩⟩) 141 false)) ∧ ∃ J : Nat → Value, e = (v :: jr J 1 10 (w :: .slice (some ⟨A2, 0, none⟩) 1 1 :: .int .i64 i :: jr J 14 59 ([])))) := ⟨_, rfl⟩
    refine zat I1 _ (by rw [hI1]; exact ⟨0, .slice none 0 0, A2 + 1, _, rfl, z, ⟨rfl, by omega, Ow.nil (by omega), by omega, q2⟩, junk (by kernel_rfl)⟩) ?_
    intro n e h' hin
    rw [hI1] at hin
    obtain ⟨i, w, A, h1', rfl, z, hinv, J, rfl⟩ := hin
    clear q2
    obtain ⟨rfl, hi, ho, hAA, q2⟩ := hinv
    have hw : IntKind.i64.wrap ((i : Int) + 1) = ((i + 1 : Nat) : Int) := by rw [zae (by omega) (by omega)]; omega
    have hz := z.size
    have hvw := zaI w
    have hlen : (zca (l.take i) [⟨s, ⟨xv, xs⟩⟩]).length ≤ 900 := by unfold zca; rw [List.length_map, List.length_take]; omega
    simp -implicitDefEqProofs only [syms, symx, seval, c64, hva, hlv]
    refine zaw (fun hlt => ?_) (fun hlt => ?_)
    rotate_left
    · rw [List.take_of_length_le (by omega)] at ho
      have q2' : Holds h1' A2 (.row [.string s, .bool xv, .string xs] 141 false) := q2
      repeat' ( simp -implicitDefEqProofs only [syms, symx, seval, c64, hvw, q2'.lay])
      refine zxW _ w ⟨s, ⟨xv, xs⟩⟩ _ ((ho.sl (by decide)).lay _ _) (by unfold zca; rw [List.length_map]; omega) _ (fun h' w2 A2 x hw2 => ?_)
      replace hw2 := zrx (h0 := h) hw2 (by rw [zad]; omega)
      (( skip); replace z := z.overW x (by (try simp only [lsz]); omega); (try replace q2 := q2.over x); (try replace ho := ho.over x); rw [zaa h'])
      have hvw2 := zaI w2
      repeat' ( simp -implicitDefEqProofs only [syms, symx, seval, c64, hvw2])
      exact hk _ _ _ (z.upW _ _ (by omega)) (fun hm => by cases hm) (fun m hm => by cases hm; exact ⟨rfl, _, hw2.mono (Inc.lay _ _ _)⟩)
    obtain ⟨r, hr, hr'⟩ := za6 (l := l) (i := i) hlt
    repeat' (first | simp -implicitDefEqProofs only [syms, symx, seval, c64, hva, hvw] | with_reducible refine zb2 (by simp only [c64]) (z.upW _ _ (by omega)) ?_ | with_reducible_and_instances refine zcT (hl.mono z.inc) ds36 zcB (by omega) hr (fun p hp => ?_) | with_reducible_and_instances refine fdb0 hp zbH (fun q hq => ?_) | with_reducible_and_instances refine fdb1 hp zcR (fun p hp => ?_) | with_reducible_and_instances refine zcU hq ag9 ?_ | with_reducible_and_instances refine ldt hp ag23 sz23 ?_)
    refine zkx [⟨s, ⟨xv, xs⟩⟩] _ r.term _ ((zyj q2).lay _ _) (by simp) _ (fun h' x => ?_)
    (( ((with_reducible refine zaH ?_ ?_ ?_); (· exact (by (try simp only [lsz]); have := z.size; omega)); (·  exact x )) ); replace z := z.overW x (by (try simp only [lsz]); omega); (try replace q2 := q2.over x); (try replace ho := ho.over x); rw [zaa h'])
    simp -implicitDefEqProofs only [syms, symx, seval, c64, zpz, zeA, ziv]
    refine zd2 (by have := z.size; omega) (by omega) ?_
    simp -implicitDefEqProofs only [syms, symx, seval, c64, zbg, zij]
    have hHs : (h'.lay [Blk.row (BindD.cells ⟨r.var, zbc [⟨s, ⟨xv, xs⟩⟩] r.term⟩) 141 false] (h'.size + 1)).size = h'.size + 1 := by rw [zad]; rfl
    have hzz := z.size
    have hfA := ho.fresh
    have q2l2 := q2.lt
    obtain ⟨hs1, hsr1⟩ := zgE (A := A) (r := Rep.bind) (c := 1) (y := ⟨r.var, zbc [⟨s, ⟨xv, xs⟩⟩] r.term⟩) (by decide) (show (h'.lay [Blk.row (BindD.cells ⟨r.var, zbc [⟨s, ⟨xv, xs⟩⟩] r.term⟩) 141 false] (h'.size + 1)).get (h'.size + 0) = some (.row (BindD.cells ⟨r.var, zbc [⟨s, ⟨xv, xs⟩⟩] r.term⟩) 141 false) by rw [za4]; rfl) rfl
    obtain ⟨w', h'', A'', e1, e2, e3, e4, e5⟩ := zfK (t := 36) ds36 za0 rfl (by decide) (by rw [hHs]; omega) (ho.mono (Inc.lay _ _ _)) hs1 hsr1 (by omega) (by omega)
    rw [e1]
    simp -implicitDefEqProofs only [syms, symx, seval, c64]
    refine zbN (A := A) (by kernel_rfl) (by rw [zad]; omega) (by omega) (by simpa only [zas, zad, List.append_nil, List.length_cons, List.length_nil, Nat.zero_add] using e3) ?_
    have q3 := q2.stepL e3 (Ne.symm hAA)
    replace z := (z.upW [Blk.row (BindD.cells ⟨r.var, zbc [⟨s, ⟨xv, xs⟩⟩] r.term⟩) 141 false] (h'.size + 1) (by omega)).step e3 hfA
    have htk : zca (l.take (i + 1)) [⟨s, ⟨xv, xs⟩⟩] = zca (l.take i) [⟨s, ⟨xv, xs⟩⟩] ++ [⟨r.var, zbc [⟨s, ⟨xv, xs⟩⟩] r.term⟩] := by rw [List.take_add_one, hr']; unfold zca; rw [List.map_append]; rfl
    rw [← htk] at e2
    rw [hHs] at e4
    clear ho q2
    rw [zaa h'']
    repeat' (first | simp -implicitDefEqProofs only [syms, symx, seval, c64] | ((with_reducible refine ⟨z.grw.lay _ _, ?_⟩); (intro _ h' zz x _); (try simp only [zas, List.append_nil] at x); (try replace e2 := e2.over x); (try replace q3 := q3.over x); (replace z := zz); (clear zz); rw [zaa h']))
    rw [hw]
    (rw [hI1]; with_reducible refine zac (m := _) ?_ ⟨i + 1, _, _, _, rfl, z, ⟨rfl, by omega, e2, by omega, q3⟩, junk (by kernel_rfl)⟩; omega)
theorem zob (a : AtomD) : a.cells.length = 11 := rfl
theorem zrN (l : List BindD) (v : Value) (a : AtomD) (h : Heap) (hl : Sl Rep.bind h v l) (hs : l.length ≤ 1000) (K : Value → Heap → Prop)
    (hk : ∀ h', Ext h h' → K (zb9 l a).val h') : Ok Tryz.prog tab ov 18 [v, a.val] h K := by
  rw [zaa h]
  have z := Ext.refl h
  have hva := zaI v
  have hcn : a.cnt ≤ 4 := by unfold AtomD.cnt; omega
  refine Ok.into rfl zuE (zaB N18) rfl (m := 20) rfl ?_
  repeat' ( simp -implicitDefEqProofs only [syms, symx, seval, c18, zay])
  refine zeg (fun h' x hq => ?_)
  have q0 := hq 0 _ rfl
  have q1 := hq 1 _ rfl
  clear hq
  (replace z := z.overW x (by (try simp only [lsz]); omega); rw [zaa h'])
  have hz0 := z.size
  obtain ⟨A0, hA0⟩ : ∃ A0, A0 = h.size + 0 := ⟨_, rfl⟩
  obtain ⟨A1, hA1⟩ : ∃ A1, A1 = h.size + 1 := ⟨_, rfl⟩
  rw [← hA0] at q0
  rw [← hA1] at q1
  rw [← hA0, ← hA1]
  obtain ⟨I1, hI1⟩ : ∃ I : Nat → Env → Heap → Prop, I = (fun n e h' => ∃ (i : Nat) (h1 : Heap), h' = h1.lay [] h1.low ∧ Ext h h1 ∧ (n = a.cnt - i ∧ i ≤ a.cnt ∧ Holds h1 A0 (.row (zfT l a i).cells 26 false) ∧ Holds h1 A1 (.row noAtomD.cells 26 false)) ∧ ∃ J : Nat → Value, e = (v :: jr J 1 2 (.pointer (some ⟨A0, 0, none⟩) :: .pointer (some ⟨A1, 0, none⟩) :: .int .i64 i :: jr J 6 16 ([])))) := ⟨_, rfl⟩
  refine zat I1 _ (by rw [hI1]; exact ⟨0, _, rfl, z, ⟨rfl, by omega, q0, q1⟩, junk (by kernel_rfl)⟩) ?_
  intro n e h' hin
  rw [hI1] at hin
  obtain ⟨i, h1', rfl, z, hinv, J, rfl⟩ := hin
  clear q0 q1
  obtain ⟨rfl, hi, q0, q1⟩ := hinv
  have hw : IntKind.i64.wrap ((i : Int) + 1) = ((i + 1 : Nat) : Int) := by rw [zae (by omega) (by omega)]; omega
  have hz := z.size
  simp -implicitDefEqProofs only [syms, symx, seval, c18, q0.lay, ↓zau, zar, zai]
  refine zfW _ _ _ (fun h' x => ?_)
  ((skip); replace z := z.overW x (by (try simp only [lsz]); omega); (try replace q0 := q0.over x); (try replace q1 := q1.over x); rw [zaa h'])
  rw [zqg]
  simp -implicitDefEqProofs only [syms, symx, seval, c18]
  refine zaw (fun hlt => ?_) (fun hlt => ?_)
  rotate_left
  · have he : i = a.cnt := by omega
    subst he
    rw [zjZ] at q0
    simp -implicitDefEqProofs only [syms, symx, seval, c18, q0.lay, ↓zau, zar, zai]
    refine zcO q1 sz26 rfl rfl rfl (fun h2' q1' c => ?_)
    replace z := (z.upW _ _ (by omega)).step c (by omega)
    rw [zaa h2']
    have q1'' : Holds h2' A1 (.row (zb9 l a).cells 26 false) := q1'
    simp -implicitDefEqProofs only [syms, symx, seval, c18, q1''.lay, ↓zau, zar, zai]
    exact hk _ (z.upW _ _ (by omega))
  have hi4 : (0 : Int) ≤ (i : Int) ∧ (i : Int) < 4 := by omega
  have hca := zfB (zfT l a i) i (by omega)
  rw [zjC l a (by omega)] at hca
  repeat' ( simp -implicitDefEqProofs only [syms, symx, seval, c18, q0.lay, hva, hi4, and_self, if_true, ↓hca, zbI, zaK])
  refine zkx l v (a.arg i) _ ((hl.mono z.inc).lay _ _) hs _ (fun h' x => ?_)
  ((skip); replace z := z.overW x (by (try simp only [lsz]); omega); (try replace q0 := q0.over x); (try replace q1 := q1.over x); rw [zaa h'])
  repeat' ( simp -implicitDefEqProofs only [syms, symx, seval, c18, hi4, and_self, if_true, zaK])
  refine zgT (o := 3 + i * 2) q0 sz23 (zba _) rfl (by rw [zob]; omega) rfl (fun h2' q0' c => ?_)
  rw [zjx l a (by omega)] at q0'
  have q1' := q1.stepL c (by omega)
  replace z := (z.upW _ _ (by omega)).step c (by omega)
  rw [zaa h2']
  clear q0 q1
  repeat' ( simp -implicitDefEqProofs only [syms, symx, seval, c18])
  rw [hw]
  (rw [hI1]; with_reducible refine zac (m := _) ?_ ⟨i + 1, _, rfl, z, ⟨rfl, by omega, q0', q1'⟩, junk (by kernel_rfl)⟩; omega)
theorem ztO (a b : AtomD) (h : Heap) (K : Value → Heap → Prop)
    (hk : ∀ h', Ext h h' → K (.bool (zbv a b)) h') : Ok Tryz.prog tab ov 61 [a.val, b.val] h K := by
  rw [zaa h]
  have z := Ext.refl h
  refine Ok.into rfl zwx (zaB N61) rfl (m := 32) rfl ?_
  simp -implicitDefEqProofs only [syms, symx, seval, c61, AtomD.val, AtomD.cells]
  repeat' (( ((with_reducible first | apply zaw | apply zdI ) <;> intro _)) <;> simp -implicitDefEqProofs only [syms, symx, seval, c61, AtomD.val, AtomD.cells])
  all_goals first
    | (have e : zbv a b = true := by
         unfold zbv
         simp only [Bool.and_eq_true, decide_eq_true_eq]
         refine ⟨?_, ?_, ?_, ?_, ?_⟩ <;> first | assumption | omega
       rw [e] at hk
       exact hk _ (z.upW _ _ (by omega)))
    | (have e : zbv a b = false := by
         cases he : zbv a b
         · rfl
         · exfalso
           unfold zbv at he
           simp only [Bool.and_eq_true, decide_eq_true_eq] at he
           obtain ⟨e1, e2, e3, e4, e5⟩ := he
           first | contradiction | omega
       rw [e] at hk
       exact hk _ (z.upW _ _ (by omega)))
end Go.Proofs.YtemapihoobmonaaGreatDoor
