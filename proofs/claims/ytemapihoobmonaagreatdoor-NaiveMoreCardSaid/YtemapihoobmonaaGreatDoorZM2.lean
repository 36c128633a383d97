/- Walks: facts and clauses that may be, by the program. Written out by fill2.py. No condition. -/
import Derived.Test.YtemapihoobmonaaGreatDoorZM1
import Derived.Test.YtemapihoobmonaaGreatDoorG18
import Derived.Test.YtemapihoobmonaaGreatDoorG33
namespace Go.Proofs.YtemapihoobmonaaGreatDoor
open Go.Am
set_option linter.unusedSimpArgs false
set_option linter.unusedVariables false
set_option maxRecDepth 100000
set_option maxHeartbeats 0
theorem eqS (a b : ByteArray) : eqIn tab 20 9 (.string a) (.string b) = some (decide (a = b)) := by
  have h : eqIn tab 20 9 (.string a) (.string b) = some (a.data.toList == b.data.toList) := by kernel_rfl
  rw [h, zmd]
theorem skS (a : ByteArray) : zfh (.string a) (.string a) = true := by
  show zj7 (.string a) (.string a) = true
  unfold zj7
  simp
theorem zx1 (h : Heap) (l : List Blk) (w i o : Nat) (v : Value) (hi : i < l.length) : za4 tab 95 (.pointer (some ⟨h.size + i, o, none⟩)) v (h.lay l w) = if v.cells.size = 0 then zey l[i]? i o v.cells.toList h l w else none := zgR sz95 h l w i o v hi
theorem ztU : zdk tab 95 [] = some (.agg ⟨[]⟩) := by kernel_rfl
theorem zo3 : tab.zero 95 = some (.agg ⟨[]⟩) := by kernel_rfl
theorem zhe (a : AtomD) (u : Value) : cut (a.cells ++ [u]) 0 11 = some a.cells := rfl
theorem zcD (a : AtomD) (u : Value) : cut (a.cells ++ [u]) 0 12 = some (a.cells ++ [u]) := rfl
theorem zcw (a : AtomD) (u : Value) : (a.cells ++ [u])[11]? = some u := rfl
theorem zka (a : AtomD) (u : Value) : (a.cells ++ [u]).length = 12 := rfl
theorem zok : decide (12 ≤ 12) = true := rfl
theorem zjB (z0 z1 z2 z3 z4 z5 z6 z7 z8 z9 z10 z11 : Value) : List.drop 12 [z0, z1, z2, z3, z4, z5, z6, z7, z8, z9, z10, z11] = [] := rfl
theorem zin {a : AtomD} {w : Value} (h : Am.one w = true) : (a.cells ++ [w]).all Am.one = true := by
  rw [List.all_append]
  simp only [List.all_cons, List.all_nil, h, Bool.and_true]
  rfl
theorem zoQ (a : AtomD) (h : Heap) (hsp : SpaceAt 1 h) (K : Value → Heap → Prop) (h1k : FactX a → ∀ h', Ext h h' → K (.bool true) h') (h2k : ¬ FactX a → ∀ h', Ext h h' → K (.bool false) h') : Ok Tryz.prog tab ov 93 [a.val] h K := by
  rw [zaa h]
  have z := Ext.refl h
  refine Ok.into rfl zuH (zaB N93) rfl (m := 9) rfl ?_
  repeat' ( simp -implicitDefEqProofs only [syms, symx, seval, c93, zay, ↓zax, zau, zaj])
  refine zlK a _ (hsp.lay _ _) _ (fun hv h' x => ?_) (fun hv c h' hc x => ?_)
  · have q0 := Holds.top (i := 0) x rfl
    ((skip); replace z := z.overW x (by (try simp only [lsz]); omega); rw [zaa h'])
    repeat' ( simp -implicitDefEqProofs only [syms, symx, seval, c93, q0.lay, ↓zax, zau, zaj])
    refine zlT a _ _ (fun h' x => ?_)
    ((skip); replace z := z.overW x (by (try simp only [lsz]); omega); (try replace q0 := q0.over x); rw [zaa h'])
    cases hg : a.ground
    · repeat' ( simp -implicitDefEqProofs only [syms, symx, seval, c93])
      exact h2k (fun x => by rw [x.ground] at hg; cases hg) _ (z.upW _ _ (by omega))
    · repeat' ( simp -implicitDefEqProofs only [syms, symx, seval, c93])
      exact h1k ⟨hv, hg⟩ _ (z.upW _ _ (by omega))
  · ((skip); replace z := z.overW x (by (try simp only [lsz]); omega); (try replace q0 := q0.over x); rw [zaa h'])
    repeat' (first | simp -implicitDefEqProofs only [syms, symx, seval, c93] | ((with_reducible  apply zdA ) <;> intro _))
    · exact absurd (by assumption) hc
    · exact h2k (fun x => hv x.valid) _ (z.upW _ _ (by omega))
open Classical in
noncomputable def badA (a : AtomD) : Bool := !decide (ValidX a)
theorem zom (a : AtomD) (h : Heap) (hsp : SpaceAt 1 h) (K : Value → Heap → Prop) (hk : ∀ h', Ext h h' → K (.bool (badA a)) h') : Ok Tryz.prog tab ov 124 [a.val] h K := by
  rw [zaa h]
  have z := Ext.refl h
  refine Ok.into rfl ztY (zaB N124) rfl (m := 5) rfl ?_
  repeat' ( simp -implicitDefEqProofs only [syms, symx, seval, c124, zay, ↓zax, zau, zaj])
  refine zlK a _ (hsp.lay _ _) _ (fun hv h' x => ?_) (fun hv c h' hc x => ?_)
  · have e : badA a = false := by unfold badA; simp [hv]
    rw [e] at hk
    ((skip); replace z := z.overW x (by (try simp only [lsz]); omega); rw [zaa h'])
    repeat' ( simp -implicitDefEqProofs only [syms, symx, seval, c124])
    first | exact hk _ (z.upW _ _ (by omega)) | skip
  · have e : badA a = true := by unfold badA; simp [hv]
    rw [e] at hk
    ((skip); replace z := z.overW x (by (try simp only [lsz]); omega); rw [zaa h'])
    simp -implicitDefEqProofs only [syms, symx, seval, c124]
    refine zwu (fun _ => ?_) (fun hh => absurd hh hc)
    repeat' ( simp -implicitDefEqProofs only [syms, symx, seval, c124])
    exact hk _ (z.upW _ _ (by omega))
theorem zp4 (c : ClauseD) (v : Value) (h : Heap) (hl : Sl Rep.atom h v c.body) (hn : c.body.length ≤ 1000) (K : Value → Heap → Prop) (h1k : (∀ x, zc7 c.head x → ∃ b ∈ c.body, zc7 b x) → ∀ h', Ext h h' → K (.bool true) h') (h2k : ¬ (∀ x, zc7 c.head x → ∃ b ∈ c.body, zc7 b x) → ∀ h', Ext h h' → K (.bool false) h') : Ok Tryz.prog tab ov 127 [.agg ⟨c.head.cells ++ [v]⟩] h K := by
  rw [zaa h]
  have z := Ext.refl h
  have hva := zaH v
  have hlv := fun (hh : Heap) => hl.lenA ds27 hh
  refine Ok.into rfl zrA (zaB N127) rfl (m := 48) rfl ?_
  repeat' ( simp -implicitDefEqProofs only [syms, symx, seval, c127, zlw, zcw, hva, hlv])
  refine zf8 (fun h' x hq => ?_)
  have q0 := hq 0 _ rfl
  have qm := hq 1 _ rfl
  clear hq
  (replace z := z.overW x (by (try simp only [lsz]); omega); rw [zaa h'])
  obtain ⟨A0, hA0⟩ : ∃ A, A = h.size + 0 := ⟨_, rfl⟩
  obtain ⟨Mm, hMm⟩ : ∃ A, A = h.size + 1 := ⟨_, rfl⟩
  rw [← hA0] at q0
  rw [← hMm] at qm
  rw [← hA0, ← hMm]
  have m0 : MapK Value.string h' Mm ([] : List ByteArray) := MapK.new qm
  clear qm
  obtain ⟨I1, hI1⟩ : ∃ I : Nat → Env → Heap → Prop, I = (fun n e h' => ∃ (i : Nat) (met : List ByteArray) (h1 : Heap), h' = h1.lay [] h1.low ∧ Ext h h1 ∧ (n = c.body.length - i ∧ i ≤ c.body.length ∧ (∀ x, x ∈ met ↔ ∃ y ∈ c.body.take i, zc7 y x) ∧ Holds h1 A0 (.row (c.head.cells ++ [v]) 29 false) ∧ MapK Value.string h1 Mm met) ∧ ∃ J : Nat → Value, e = (J 0 :: .pointer (some ⟨A0, 0, none⟩) :: J 2 :: .map (some Mm) :: jr J 4 10 (v :: .int .i64 c.body.length :: .int .i64 i :: jr J 17 32 ([])))) := ⟨_, rfl⟩
  refine zas I1 _ (by rw [hI1]; exact ⟨0, [], _, rfl, z, ⟨rfl, by omega, by simp, q0, m0⟩, junk (by kernel_rfl)⟩) ?_
  intro n e h' hin
  rw [hI1] at hin
  obtain ⟨i, met, h1', rfl, z, hinv, J, rfl⟩ := hin
  clear q0 m0
  obtain ⟨rfl, hi, hmet, q0, m0⟩ := hinv
  have hwi : IntKind.i64.wrap ((i : Int) + 1) = ((i + 1 : Nat) : Int) := by rw [zae (by omega) (by omega)]; omega
  simp -implicitDefEqProofs only [syms, symx, seval, c127]
  refine zaw (fun hlt => ?_) (fun hlt => ?_)
  · obtain ⟨y, hy, hy'⟩ := za5 (l := c.body) (i := i) (by omega)
    repeat' (first | simp -implicitDefEqProofs only [syms, symx, seval, c127, zaP, zaC, List.all_cons, List.all_nil, Am.one, Bool.and_true, Bool.true_and, Bool.and_self, List.set_cons_zero, List.set_cons_succ, st4, st3, st9, st23, st26, st29, zcj, zay, zfU, zfK, zfE, zlA, zrF, List.append_nil, if_true, ↓zax, zau, zaj] | with_reducible_and_instances refine zdN (hl.mono z.inc) ds27 sz26 (by omega) hy (fun p hp => ?_) | with_reducible_and_instances refine lda hp ag26 sz26 ?_)
    refine zpc y _ _ (fun w l h' x s hl4 hm => ?_)
    ((skip); replace z := z.overW x (by (try simp only [lsz]); omega); (try replace q0 := q0.over x); (try replace m0 := m0.over x); rw [zaa h'])
    have hvw := zaH w
    have hlw := fun (hh : Heap) => s.lenA ds49 hh
    clear hp
    repeat' ( simp -implicitDefEqProofs only [syms, symx, seval, c127, hvw, hlw])
    obtain ⟨Hb, rfl⟩ : ∃ Hb, Hb = h' := ⟨_, rfl⟩
    have hMl := m0.lt
    obtain ⟨I2, hI2⟩ : ∃ I : Nat → Env → Heap → Prop, I = (fun n e h' => ∃ (j : Nat) (met2 : List ByteArray) (h1 : Heap), h' = h1.lay [] h1.low ∧ Ext h h1 ∧ (n = l.length - j ∧ j ≤ l.length ∧ (∀ x, x ∈ met2 ↔ (∃ y ∈ c.body.take i, zc7 y x) ∨ x ∈ l.take j) ∧ Holds h1 A0 (.row (c.head.cells ++ [v]) 29 false) ∧ MapK Value.string h1 Mm met2 ∧ Sl Rep.str h1 w l) ∧ ∃ J : Nat → Value, e = (J 0 :: .pointer (some ⟨A0, 0, none⟩) :: J 2 :: .map (some Mm) :: jr J 4 10 (v :: .int .i64 c.body.length :: .int .i64 i :: jr J 17 4 (w :: .int .i64 l.length :: .int .i64 j :: jr J 24 25 ([]))))) := ⟨_, rfl⟩
    refine zas I2 _ (by rw [hI2]; exact ⟨0, met, _, rfl, z, ⟨rfl, by omega, by simpa using hmet, q0, m0, s⟩, junk (by kernel_rfl)⟩) ?_
    intro n e h' hin
    rw [hI2] at hin
    obtain ⟨j, met2, h2', rfl, z, hinv, J, rfl⟩ := hin
    clear q0 m0 s
    obtain ⟨rfl, hj, hmet2, q0, m0, s⟩ := hinv
    have hwj : IntKind.i64.wrap ((j : Int) + 1) = ((j + 1 : Nat) : Int) := by rw [zae (by omega) (by omega)]; omega
    have hz2 := z.size
    simp -implicitDefEqProofs only [syms, symx, seval, c127]
    refine zaw (fun hlt2 => ?_) (fun hlt2 => ?_)
    rotate_left
    · rw [List.take_of_length_le (l := l) (i := j) (by omega)] at hmet2
      have hnx : ∀ x, x ∈ met2 ↔ ∃ y ∈ c.body.take (i + 1), zc7 y x := by
        intro x
        rw [hmet2, hm, List.take_add_one, hy']
        simp only [Option.toList_some, List.mem_append, List.mem_singleton]
        constructor
        · rintro (⟨b, hb, e⟩ | e)
          · exact ⟨b, .inl hb, e⟩
          · exact ⟨y, .inr rfl, e⟩
        · rintro ⟨b, hb | hb, e⟩
          · exact .inl ⟨b, hb, e⟩
          · exact .inr (hb ▸ e)
      repeat' ( simp -implicitDefEqProofs only [syms, symx, seval, c127])
      rw [hwi]
      (rw [hI1]; with_reducible refine zac (m := _) ?_ ⟨i + 1, met2, _, rfl, z, ⟨rfl, by omega, hnx, q0, m0⟩, junk (by kernel_rfl)⟩; omega)
    obtain ⟨x0, hx0, hx0'⟩ := za5 (l := l) (i := j) (by omega)
    repeat' (first | simp -implicitDefEqProofs only [syms, symx, seval, c127, zhA, ztU] | with_reducible_and_instances refine zmy s ds49 sz9 (by omega) hx0 (fun p hp => ?_) | with_reducible_and_instances refine zd9 hp ag9 ?_)
    have hMM := m0.lt
    have hM0 : A0 ≠ Mm := by omega
    refine zo4 (a := x0) m0 (fun _ => rfl) skS zx9 eqS (fun h' m1 cg => ?_)
    have q1 := q0.stepL cg hM0
    have s1 := Sl.stepM s (fun _ _ _ _ h => h) m0 cg
    replace z := (z.upW _ _ (by omega)).step cg (by omega)
    rw [zaa h']
    have hnx : ∀ x, x ∈ x0 :: met2 ↔ (∃ y ∈ c.body.take i, zc7 y x) ∨ x ∈ l.take (j + 1) := by
      intro x
      rw [List.mem_cons, hmet2, List.take_add_one, hx0', List.mem_append]
      simp only [Option.toList_some, List.mem_singleton]
      constructor
      · rintro (e | e | e)
        · exact .inr (.inr e)
        · exact .inl e
        · exact .inr (.inl e)
      · rintro (e | e | e)
        · exact .inr (.inl e)
        · exact .inr (.inr e)
        · exact .inl e
    clear q0 m0 s
    repeat' ( simp -implicitDefEqProofs only [syms, symx, seval, c127])
    rw [hwj]
    (rw [hI2]; with_reducible refine zac (m := _) ?_ ⟨j + 1, x0 :: met2, _, rfl, z, ⟨rfl, by omega, hnx, q1, m1, s1⟩, junk (by kernel_rfl)⟩; omega)
  rw [List.take_of_length_le (by omega)] at hmet
  repeat' ( simp -implicitDefEqProofs only [syms, symx, seval, c127, q0.lay, ↓zhe, zau, zaj])
  refine zpc c.head _ _ (fun w l h' x s hl4 hm => ?_)
  ((skip); replace z := z.overW x (by (try simp only [lsz]); omega); (try replace q0 := q0.over x); (try replace m0 := m0.over x); (try replace s := s.over x); rw [zaa h'])
  have hvw := zaH w
  have hlw := fun (hh : Heap) => s.lenA ds49 hh
  repeat' ( simp -implicitDefEqProofs only [syms, symx, seval, c127, hvw, hlw])
  obtain ⟨I3, hI3⟩ : ∃ I : Nat → Env → Heap → Prop, I = (fun n e h' => ∃ (j : Nat) (h1 : Heap), h' = h1.lay [] h1.low ∧ Ext h h1 ∧ (n = l.length - j ∧ j ≤ l.length ∧ (∀ x ∈ l.take j, x ∈ met) ∧ MapK Value.string h1 Mm met ∧ Sl Rep.str h1 w l) ∧ ∃ J : Nat → Value, e = (jr J 0 3 (.map (some Mm) :: jr J 4 30 (w :: .int .i64 l.length :: .int .i64 j :: jr J 37 12 ([]))))) := ⟨_, rfl⟩
  refine zas I3 _ (by rw [hI3]; exact ⟨0, _, rfl, z, ⟨rfl, by omega, by simp, m0, s⟩, junk (by kernel_rfl)⟩) ?_
  intro n e h' hin
  rw [hI3] at hin
  obtain ⟨j, h2', rfl, z, hinv, J, rfl⟩ := hin
  clear m0 s
  obtain ⟨rfl, hj, hall, m0, s⟩ := hinv
  have hwj : IntKind.i64.wrap ((j : Int) + 1) = ((j + 1 : Nat) : Int) := by rw [zae (by omega) (by omega)]; omega
  simp -implicitDefEqProofs only [syms, symx, seval, c127]
  refine zaw (fun hlt2 => ?_) (fun hlt2 => ?_)
  rotate_left
  · rw [List.take_of_length_le (by omega)] at hall
    repeat' ( simp -implicitDefEqProofs only [syms, symx, seval, c127])
    exact h1k (fun x hx => (hmet x).1 (hall x ((hm x).2 hx))) _ (z.upW _ _ (by omega))
  obtain ⟨x0, hx0, hx0'⟩ := za5 (l := l) (i := j) (by omega)
  repeat' (first | simp -implicitDefEqProofs only [syms, symx, seval, c127, zpj] | with_reducible_and_instances refine zmy s ds49 sz9 (by omega) hx0 (fun p hp => ?_) | with_reducible_and_instances refine zd9 hp ag9 ?_)
  refine zjx (a := x0) m0 (fun _ => rfl) zx9 eqS zo3 (fun hin => ?_) (fun hin => ?_)
  all_goals
    repeat' (first | simp -implicitDefEqProofs only [syms, symx, seval, c127, zaP, zaC, List.all_cons, List.all_nil, Am.one, Bool.and_true, Bool.true_and, Bool.and_self, List.set_cons_zero, List.set_cons_succ, st4, st3, st9, st23, st26, st29, zcj, zx1] | ((with_reducible_and_instances apply zaf); (· rfl)))
  · rw [hwj]
    refine zdC (z.upW _ _ (by omega)) (fun H z hO hI => ?_)
    (rw [hI3]; with_reducible refine zac (m := _) ?_ ⟨j + 1, _, rfl, z, ⟨rfl, by omega, zbp (i := j) (P := fun x : ByteArray => x ∈ met) hx0' hall hin, m0.hold hO, s.mono hI⟩, junk (by kernel_rfl)⟩; omega)
  · exact h2k (fun hh => hin ((hmet x0).2 (hh x0 ((hm x0).1 (List.mem_of_getElem? hx0'))))) _ (z.upW _ _ (by omega))
theorem zxq (c : ClauseD) (v : Value) (h : Heap) (hsp : SpaceAt 1 h) (hl : Sl Rep.atom h v c.body) (hn : c.body.length ≤ 1000) (K : Value → Heap → Prop) (h1k : OneX c → ∀ h', Ext h h' → K (.bool true) h') (h2k : ¬ OneX c → ∀ h', Ext h h' → K (.bool false) h') : Ok Tryz.prog tab ov 92 [.agg ⟨c.head.cells ++ [v]⟩] h K := by
  rw [zaa h]
  have z := Ext.refl h
  have hva := zaH v
  have hlv := fun (hh : Heap) => hl.lenA ds27 hh
  refine Ok.into rfl zvQ (zaB N92) rfl (m := 19) rfl ?_
  repeat' ( simp -implicitDefEqProofs only [syms, symx, seval, c92, zay, ↓zax, ↓zhe, zau, zaj, hva, zbt])
  refine zom c.head _ (hsp.lay _ _) _ (fun h' x => ?_)
  have q0 := Holds.top (i := 0) x rfl
  ((skip); replace z := z.overW x (by (try simp only [lsz]); omega); (try replace m0 := m0.over x); (try replace s := s.over x); rw [zaa h'])
  obtain ⟨A0, hA0⟩ : ∃ A0, A0 = h.size + 0 := ⟨_, rfl⟩
  rw [← hA0] at q0
  rw [← hA0]
  cases hb : badA c.head
  rotate_left
  · repeat' (first | simp -implicitDefEqProofs only [syms, symx, seval, c92, Bool.not_true] | ((with_reducible_and_instances apply zaf); (· rfl)))
    exact h2k (fun x => by unfold badA at hb; simp [x.head] at hb) _ (z.upW _ _ (by omega))
  have hhd : ValidX c.head := by unfold badA at hb; simpa using hb
  repeat' (first | simp -implicitDefEqProofs only [syms, symx, seval, c92, Bool.not_false, q0.lay, zcw, hva] | ((with_reducible_and_instances apply zaf); (· rfl)))
  refine zg9 c.body v _ badA _ ((hl.mono z.inc).lay _ _) hn (fun a hc K' xe hK => by rw [zbt]; exact zom a hc (((hsp.ext z).lay _ _).ext xe) K' hK) _ (fun h' x => ?_)
  ((skip); replace z := z.overW x (by (try simp only [lsz]); omega); (try replace q0 := q0.over x); rw [zaa h'])
  cases hany : c.body.any badA
  rotate_left
  · repeat' (first | simp -implicitDefEqProofs only [syms, symx, seval, c92, Bool.not_true] | ((with_reducible_and_instances apply zaf); (· rfl)))
    refine h2k (fun x => ?_) _ (z.upW _ _ (by omega))
    obtain ⟨t, ht, hb2⟩ := List.any_eq_true.1 hany
    unfold badA at hb2
    simp [x.body t ht] at hb2
  have hbd : ∀ b ∈ c.body, ValidX b := fun b hm => by
    have := List.any_eq_false.1 hany b hm
    unfold badA at this
    simpa using this
  repeat' (first | simp -implicitDefEqProofs only [syms, symx, seval, c92, Bool.not_false, q0.lay, ↓zcD] | ((with_reducible_and_instances apply zaf); (· rfl)))
  refine zp4 c v _ ((hl.mono z.inc).lay _ _) hn _ (fun hr h' x => ?_) (fun hr h' x => ?_)
  · ((skip); replace z := z.overW x (by (try simp only [lsz]); omega); (try replace q0 := q0.over x); rw [zaa h'])
    repeat' ( simp -implicitDefEqProofs only [syms, symx, seval, c92])
    exact h1k ⟨hhd, hbd, hr⟩ _ (z.upW _ _ (by omega))
  · ((skip); replace z := z.overW x (by (try simp only [lsz]); omega); (try replace q0 := q0.over x); rw [zaa h'])
    repeat' ( simp -implicitDefEqProofs only [syms, symx, seval, c92])
    exact h2k (fun x => hr x.ranged) _ (z.upW _ _ (by omega))
theorem zr0 (cl : List ClauseD) (facts : List AtomD) (v u : Value) (h : Heap) (hsp : SpaceAt 1 h) (hl : Sl Rep.clause h v cl) (hf : Sl Rep.atom h u facts) (hn : cl.length ≤ 1000) (hcb : ∀ c ∈ cl, c.body.length ≤ 1000) (hfn : facts.length ≤ 1000) (K : Value → Heap → Prop) (h1k : MayX cl facts → ∀ h', Ext h h' → K (.bool true) h') (h2k : ¬ MayX cl facts → ∀ h', Ext h h' → K (.bool false) h') : Ok Tryz.prog tab ov 54 [v, u] h K := by
  rw [zaa h]
  have z := Ext.refl h
  have hva := zaH v
  have hvu := zaH u
  have hlv := fun (hh : Heap) => hl.lenA ds32 hh
  have hlu := fun (hh : Heap) => hf.lenA ds27 hh
  refine Ok.into rfl zvP (zaB N54) rfl (m := 27) rfl ?_
  simp -implicitDefEqProofs only [syms, symx, seval, c54, hva, hlv]
  obtain ⟨I1, hI1⟩ : ∃ I : Nat → Env → Heap → Prop, I = (fun n e h' => ∃ (i : Nat) (h1 : Heap), h' = h1.lay [] h1.low ∧ Ext h h1 ∧ (n = cl.length - i ∧ i ≤ cl.length ∧ (∀ c ∈ cl.take i, OneX c)) ∧ ∃ J : Nat → Value, e = (v :: u :: jr J 2 7 (v :: .int .i64 cl.length :: .int .i64 i :: jr J 12 17 ([])))) := ⟨_, rfl⟩
  refine zas I1 _ (by rw [hI1]; exact ⟨0, _, rfl, z, ⟨rfl, by omega, by simp⟩, junk (by kernel_rfl)⟩) ?_
  intro n e h' hin
  rw [hI1] at hin
  obtain ⟨i, h1', rfl, z, hinv, J, rfl⟩ := hin
  obtain ⟨rfl, hi, hall⟩ := hinv
  have hw : IntKind.i64.wrap ((i : Int) + 1) = ((i + 1 : Nat) : Int) := by rw [zae (by omega) (by omega)]; omega
  simp -implicitDefEqProofs only [syms, symx, seval, c54]
  refine zaw (fun hlt => ?_) (fun hlt => ?_)
  · obtain ⟨r, hr, hr'⟩ := za5 (l := cl) (i := i) (by omega)
    repeat' (first | simp -implicitDefEqProofs only [syms, symx, seval, c54] | with_reducible_and_instances refine zo5 (hl.mono z.inc) ds32 sz29 (by omega) hr (fun p bd hbd hp => ?_) | with_reducible_and_instances refine ldc hp ag29 sz29 ?_)
    have hall1 := zin (a := r.head) hbd.one
    repeat' ( simp -implicitDefEqProofs only [syms, symx, seval, c54, zaP, zaC, List.all_cons, List.all_nil, Am.one, Bool.and_true, Bool.true_and, Bool.and_self, List.set_cons_zero, List.set_cons_succ, st4, st3, st9, st23, st26, st29, zcj, zka, hall1, zok, zjB, if_true, ↓zcD])
    refine zxq r _ _ ((hsp.ext z).lay _ _) (Sl.lay (by assumption) _ _) (hcb r (List.mem_of_getElem? hr')) _ (fun ho h' x => ?_) (fun ho h' x => ?_)
    · ((skip); replace z := z.overW x (by (try simp only [lsz]); omega); rw [zaa h'])
      repeat' (first | simp -implicitDefEqProofs only [syms, symx, seval, c54, Bool.not_true] | ((with_reducible_and_instances apply zaf); (· rfl)))
      rw [hw]
      (rw [hI1]; with_reducible refine zac (m := _) ?_ ⟨i + 1, _, rfl, z, ⟨rfl, by omega, zbp (i := i) (P := OneX) hr' hall ho⟩, junk (by kernel_rfl)⟩; omega)
    · ((skip); replace z := z.overW x (by (try simp only [lsz]); omega); rw [zaa h'])
      repeat' (first | simp -implicitDefEqProofs only [syms, symx, seval, c54, Bool.not_false] | ((with_reducible_and_instances apply zaf); (· rfl)))
      exact h2k (fun x => ho (x.clauses r (List.mem_of_getElem? hr'))) _ (z.upW _ _ (by omega))
  rw [List.take_of_length_le (by omega)] at hall
  repeat' ( simp -implicitDefEqProofs only [syms, symx, seval, c54, hvu, hlu])
  obtain ⟨I2, hI2⟩ : ∃ I : Nat → Env → Heap → Prop, I = (fun n e h' => ∃ (k : Nat) (h1 : Heap), h' = h1.lay [] h1.low ∧ Ext h h1 ∧ (n = facts.length - k ∧ k ≤ facts.length ∧ (∀ a ∈ facts.take k, FactX a)) ∧ ∃ J : Nat → Value, e = (v :: u :: jr J 2 17 (u :: .int .i64 facts.length :: .int .i64 k :: jr J 22 7 ([])))) := ⟨_, rfl⟩
  refine zas I2 _ (by rw [hI2]; exact ⟨0, _, rfl, z, ⟨rfl, by omega, by simp⟩, junk (by kernel_rfl)⟩) ?_
  intro n e h' hin
  rw [hI2] at hin
  obtain ⟨k, h1', rfl, z, hinv, J, rfl⟩ := hin
  obtain ⟨rfl, hk1, hfa⟩ := hinv
  have hwk : IntKind.i64.wrap ((k : Int) + 1) = ((k + 1 : Nat) : Int) := by rw [zae (by omega) (by omega)]; omega
  simp -implicitDefEqProofs only [syms, symx, seval, c54]
  refine zaw (fun hlt2 => ?_) (fun hlt2 => ?_)
  rotate_left
  · rw [List.take_of_length_le (by omega)] at hfa
    repeat' ( simp -implicitDefEqProofs only [syms, symx, seval, c54])
    exact h1k ⟨hall, hfa⟩ _ (z.upW _ _ (by omega))
  obtain ⟨y, hy, hy'⟩ := za5 (l := facts) (i := k) (by omega)
  repeat' (first | simp -implicitDefEqProofs only [syms, symx, seval, c54, zaP, zaC, List.all_cons, List.all_nil, Am.one, Bool.and_true, Bool.true_and, Bool.and_self, List.set_cons_zero, List.set_cons_succ, st4, st3, st9, st23, st26, st29, zcj, zay, zfU, zfK, zfE, zlA, zrF, List.append_nil, if_true, ↓zax, zau, zaj] | with_reducible_and_instances refine zdN (hf.mono z.inc) ds27 sz26 (by omega) hy (fun p hp => ?_) | with_reducible_and_instances refine lda hp ag26 sz26 ?_)
  refine zoQ y _ ((hsp.ext z).lay _ _) _ (fun hv2 h' x => ?_) (fun hv2 h' x => ?_)
  · ((skip); replace z := z.overW x (by (try simp only [lsz]); omega); rw [zaa h'])
    repeat' (first | simp -implicitDefEqProofs only [syms, symx, seval, c54, Bool.not_true] | ((with_reducible_and_instances apply zaf); (· rfl)))
    rw [hwk]
    (rw [hI2]; with_reducible refine zac (m := _) ?_ ⟨k + 1, _, rfl, z, ⟨rfl, by omega, zbp (i := k) (P := FactX) hy' hfa hv2⟩, junk (by kernel_rfl)⟩; omega)
  · ((skip); replace z := z.overW x (by (try simp only [lsz]); omega); rw [zaa h'])
    repeat' (first | simp -implicitDefEqProofs only [syms, symx, seval, c54, Bool.not_false] | ((with_reducible_and_instances apply zaf); (· rfl)))
    exact h2k (fun x => hv2 (x.facts y (List.mem_of_getElem? hy'))) _ (z.upW _ _ (by omega))
end Go.Proofs.YtemapihoobmonaaGreatDoor
