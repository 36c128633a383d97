/- Walks: atoms that may be, their variables, by the program. Written out by fill2.py. No condition. -/
import Derived.Test.YtemapihoobmonaaGreatDoorG27
import Derived.Test.YtemapihoobmonaaGreatDoorG28
import Derived.Test.YtemapihoobmonaaGreatDoorG29
import Derived.Test.YtemapihoobmonaaGreatDoorG31
namespace Go.Proofs.YtemapihoobmonaaGreatDoor
open Go.Am
set_option linter.unusedSimpArgs false
set_option linter.unusedVariables false
set_option maxRecDepth 100000
set_option maxHeartbeats 0
theorem zv3 (A o : Nat) (k : Int) (h0 : 0 ≤ k) (h4 : k ≤ 4) : zbb tab 24 (.pointer (some ⟨A, o, none⟩)) (some (.int .i64 k)) none none = some (.slice (some ⟨A, if 4 = k.toNat then o else o + k.toNat * 2, none⟩) (4 - k.toNat) (4 - k.toNat)) := by
  have hG : 4 < G := by decide
  simp only [zbb, ds24, zbW, zg6, if_pos hG, Option.bind_some]
  rw [if_pos ⟨h0, by omega⟩]
  simp [sz23]
theorem zdI (a : AtomD) (k : Nat) : (a.all.drop k).length = 4 - k := by rw [List.length_drop]; rfl
theorem zrg (a : AtomD) {k i : Nat} (h : k + i < 4) : (a.all.drop k)[i]? = some (a.arg (k + i)) := by
  rw [List.getElem?_drop]
  have : k + i = 0 ∨ k + i = 1 ∨ k + i = 2 ∨ k + i = 3 := by omega
  rcases this with e | e | e | e <;> rw [e] <;> rfl
theorem zxt {H : Heap} {A : Nat} {a : AtomD} {u : TypeId} {ro : Bool} (q : Holds H A (.row a.cells u ro)) (k : Nat) (hk : k ≤ 4) : Sl Rep.term H (.slice (some ⟨A, if 4 = k then 3 else 3 + k * 2, none⟩) (4 - k) (4 - k)) (a.all.drop k) := by
  refine .inr ⟨A, _, 4 - k, a.cells, u, ro, by rw [zdI], by rw [zdI]; unfold maxLen; omega, .inl ⟨by unfold G; omega, by rw [zdI]; exact Nat.le_refl _⟩, q.lt, q.get, fun i x hx => ?_⟩
  have hi : i < 4 - k := by have := (List.getElem?_eq_some_iff.1 hx).1; rw [zdI] at this; exact this
  rw [zrg a (by omega)] at hx
  cases hx
  have hc := znB a (k + i) (by omega)
  rw [if_neg (by omega)]
  refine ⟨_, ?_, rfl⟩
  show cut a.cells (3 + k * 2 + i * 2) 2 = _
  rw [← hc]
  congr 1
  omega
theorem zrh (a : AtomD) : a.cells[0]? = some (.string a.says) := rfl
theorem zty (a : AtomD) : a.cells[1]? = some (.string a.pred) := rfl
theorem zpd (a : AtomD) : a.cells[2]? = some (.int .i64 a.n) := rfl
theorem zlK (a : AtomD) (h : Heap) (hsp : SpaceAt 1 h) (K : Value → Heap → Prop) (h1 : ValidX a → ∀ h', Ext h h' → K (.int .i64 0) h') (h2 : ¬ ValidX a → ∀ c h', c ≠ 0 → Ext h h' → K (.int .i64 c) h') : Ok Tryz.prog tab ov 125 [a.val] h K := by
  rw [zaa h]
  have z := Ext.refl h
  refine Ok.into rfl ztW (zaB N125) rfl (m := 40) rfl ?_
  repeat' ( simp -implicitDefEqProofs only [syms, symx, seval, c125, zay, zrh, zty, zpd])
  refine zoM _ _ (hsp.lay _ _) _ (fun hs h' x => ?_) (fun hs h' x => ?_)
  rotate_left
  · ((skip); replace z := z.overW x (by (try simp only [lsz]); omega); rw [zaa h'])
    repeat' (first | simp -implicitDefEqProofs only [syms, symx, seval, c125] | ((with_reducible_and_instances apply zaf); (· rfl)))
    exact h2 (fun x => hs x.says) _ _ (by decide) (z.upW _ _ (by omega))
  have q0 := Holds.top (i := 0) x rfl
  ((skip); replace z := z.overW x (by (try simp only [lsz]); omega); rw [zaa h'])
  repeat' (first | simp -implicitDefEqProofs only [syms, symx, seval, c125, q0.lay, zrh, zty, zpd] | ((with_reducible_and_instances apply zaf); (· rfl)))
  refine zvU _ _ ((hsp.ext z).lay _ _) _ (fun hp h' x => ?_) (fun hp h' x => ?_)
  rotate_left
  · ((skip); replace z := z.overW x (by (try simp only [lsz]); omega); (try replace q0 := q0.over x); rw [zaa h'])
    repeat' (first | simp -implicitDefEqProofs only [syms, symx, seval, c125] | ((with_reducible_and_instances apply zaf); (· rfl)))
    exact h2 (fun x => hp x.pred) _ _ (by decide) (z.upW _ _ (by omega))
  ((skip); replace z := z.overW x (by (try simp only [lsz]); omega); (try replace q0 := q0.over x); rw [zaa h'])
  repeat' (first | simp -implicitDefEqProofs only [syms, symx, seval, c125, q0.lay, zrh, zty, zpd, ↓zax, zau, zaj] | ((with_reducible  apply zaw ) <;> intro _) | ((with_reducible_and_instances apply zaf); (· rfl)))
  all_goals try exact h2 (fun x => by have := x.lo; have := x.hi; omega) _ _ (by decide) (z.upW _ _ (by omega))
  have hn0 : 0 ≤ a.n := by omega
  have hn4 : a.n ≤ 4 := by omega
  have hcnt : a.cnt = a.n.toNat := zwa hn0 hn4
  refine zjz a _ _ (fun w h' x sw => ?_)
  ((skip); replace z := z.overW x (by (try simp only [lsz]); omega); (try replace q0 := q0.over x); rw [zaa h'])
  have hvw := zaH w
  repeat' ( simp -implicitDefEqProofs only [syms, symx, seval, c125, hvw])
  refine zeD a.args w _ badT _ (sw.lay _ _) (by rw [zbe]; have := zjO a; omega) (fun t hc K' xe hK => by rw [zbt]; exact zqv t hc ((hsp.ext z).lay _ _ |>.ext xe) K' hK) _ (fun h' x => ?_)
  ((skip); replace z := z.overW x (by (try simp only [lsz]); omega); (try replace q0 := q0.over x); rw [zaa h'])
  cases hany : a.args.any badT
  rotate_left
  · repeat' ( simp -implicitDefEqProofs only [syms, symx, seval, c125])
    refine h2 (fun x => ?_) _ _ (by decide) (z.upW _ _ (by omega))
    obtain ⟨t, ht, hb⟩ := List.any_eq_true.1 hany
    obtain ⟨i, hi, rfl⟩ := arg_mem.1 ht
    have := x.terms i (cnt_lt.1 hi).2
    unfold badT at hb
    simp [this] at hb
  have hterms : ∀ i : Nat, (i : Int) < a.n → termX (a.arg i) := fun i hi => by
    have := List.any_eq_false.1 hany (a.arg i) (arg_mem.2 ⟨i, by omega, rfl⟩)
    unfold badT at this
    simpa using this
  obtain ⟨k, hk⟩ := Int.eq_ofNat_of_zero_le hn0
  have hk4 : k ≤ 4 := by omega
  have hsl := zv3
  have hrest := zxt q0 k hk4
  have hin4 : (0 : Int) ≤ a.n ∧ a.n ≤ 4 := ⟨hn0, hn4⟩
  repeat' ( simp -implicitDefEqProofs only [syms, symx, seval, c125, q0.lay, zpd, zv3 _ _ _ hn0 hn4])
  have hkn : a.n.toNat = k := by omega
  rw [hkn]
  obtain ⟨sv, hsv⟩ : ∃ sv, sv = Value.slice (some ⟨h.size + 0, if 4 = k then 3 else 3 + k * 2, none⟩) (4 - k) (4 - k) := ⟨_, rfl⟩
  rw [← hsv] at hrest ⊢
  clear hsl
  obtain ⟨I1, hI1⟩ : ∃ I : Nat → Env → Heap → Prop, I = (fun n e h' => ∃ (i : Nat) (h1 : Heap), h' = h1.lay [] h1.low ∧ Ext h h1 ∧ (n = 4 - k - i ∧ i ≤ 4 - k ∧ (∀ t ∈ (a.all.drop k).take i, t = noTermD) ∧ Sl Rep.term h1 sv (a.all.drop k)) ∧ ∃ J : Nat → Value, e = (jr J 0 31 (sv :: .int .i64 ((4 - k : Nat) : Int) :: .int .i64 i :: jr J 34 7 ([])))) := ⟨_, rfl⟩
  refine zas I1 _ (by rw [hI1]; exact ⟨0, _, rfl, z, ⟨rfl, by omega, by simp, hrest⟩, junk (by kernel_rfl)⟩) ?_
  intro n e h' hin
  rw [hI1] at hin
  obtain ⟨i, h1', rfl, z, hinv, J, rfl⟩ := hin
  clear hrest q0
  obtain ⟨rfl, hi, hall, hrest⟩ := hinv
  have hwi : IntKind.i64.wrap ((i : Int) + 1) = ((i + 1 : Nat) : Int) := by rw [zae (by omega) (by omega)]; omega
  have hal := zdI a k
  simp -implicitDefEqProofs only [syms, symx, seval, c125]
  refine zaw (fun hlt => ?_) (fun hlt => ?_)
  rotate_left
  · rw [List.take_of_length_le (by omega)] at hall
    repeat' ( simp -implicitDefEqProofs only [syms, symx, seval, c125])
    refine h1 ⟨hs, hp, hn0, hn4, hterms, fun j hj hj4 => ?_⟩ _ (z.upW _ _ (by omega))
    have hat := zrg a (k := k) (i := j - k) (by omega)
    have e : k + (j - k) = j := by omega
    rw [e] at hat
    exact hall _ (List.mem_of_getElem? hat)
  obtain ⟨⟨rv, rs⟩, hr, hr'⟩ := za5 (l := a.all.drop k) (i := i) (by omega)
  have hri : a.arg (k + i) = ⟨rv, rs⟩ := Option.some.inj ((zrg a (by omega)).symm.trans hr')
  repeat' (first | simp -implicitDefEqProofs only [syms, symx, seval, c125, zaP, zaC, List.all_cons, List.all_nil, Am.one, Bool.and_true, Bool.true_and, Bool.and_self, List.set_cons_zero, List.set_cons_succ, st4, st3, st9, st23, st26, st29, zcj, TermD.val, TermD.cells, zqN, znL] | ((with_reducible  apply zgU ) <;> intro _) | with_reducible_and_instances refine zoW hrest zjQ sz23 (by omega) hr (fun p hp => ?_) | with_reducible_and_instances refine ldt hp ag23 sz23 ?_)
  · refine h2 (fun x => ?_) _ _ (by decide) (z.upW _ _ (by omega))
    have := x.rest (k + i) (by omega) (by omega)
    rw [hri] at this
    exact absurd this (by assumption)
  · have heq9 : (⟨rv, rs⟩ : TermD) = noTermD := ‹(⟨rv, rs⟩ : TermD) = ⟨false, ⟨#[]⟩⟩›
    rw [hwi]
    refine zdC (z.upW _ _ (by omega)) (fun H z hO hI => ?_)
    (rw [hI1]; with_reducible refine zac (m := _) ?_ ⟨i + 1, _, rfl, z, ⟨rfl, by omega, zbp (i := i) (P := fun t : TermD => t = noTermD) hr' hall heq9, hrest.mono hI⟩, junk (by kernel_rfl)⟩; omega)
theorem zrL (a : AtomD) (bv : Bool) (h : Heap) (K : Value → Heap → Prop) (hk : ∀ w l h', Ext h h' → Sl Rep.str h' w l → l.length ≤ 4 → (∀ x, x ∈ l ↔ ∃ i : Nat, i < a.cnt ∧ (a.arg i).v = bv ∧ (a.arg i).s = x) → K w h') : Ok Tryz.prog tab ov 192 [a.val, .bool bv] h K := by
  rw [zaa h]
  have z := Ext.refl h
  have hcn := zjO a
  refine Ok.into rfl zs3 (zaB N192) rfl (m := 31) rfl ?_
  repeat' ( simp -implicitDefEqProofs only [syms, symx, seval, c192, zay, ↓zax, zau, zaj])
  refine zjz a _ _ (fun w h' x sw => ?_)
  ((skip); replace z := z.overW x (by (try simp only [lsz]); omega); rw [zaa h'])
  have hvw := zaH w
  have hlw := fun (hh : Heap) => sw.lenA zjQ hh
  have hal := zbe a
  have hz0 := z.size
  simp -implicitDefEqProofs only [syms, symx, seval, c192, hvw, hlw]
  obtain ⟨Hb, rfl⟩ : ∃ Hb, Hb = h' := ⟨_, rfl⟩
  obtain ⟨I1, hI1⟩ : ∃ I : Nat → Env → Heap → Prop, I = (fun n e h' => ∃ (i : Nat) (wv : Value) (A : Nat) (l : List ByteArray) (h1 : Heap), h' = h1.lay [] h1.low ∧ Ext h h1 ∧ (n = a.cnt - i ∧ i ≤ a.cnt ∧ l.length ≤ i ∧ (∀ x, x ∈ l ↔ ∃ j : Nat, j < i ∧ (a.arg j).v = bv ∧ (a.arg j).s = x) ∧ Ow Rep.str h h1 9 A wv l ∧ Inc Hb h1 ∧ Hb.size ≤ A) ∧ ∃ J : Nat → Value, e = (J 0 :: .bool bv :: jr J 2 3 (wv :: jr J 6 3 (w :: .int .i64 a.args.length :: .int .i64 i :: jr J 12 21 ([]))))) := ⟨_, rfl⟩
  refine zas I1 _ (by rw [hI1]; exact ⟨0, .slice none 0 0, Hb.size, [], _, rfl, z, ⟨rfl, by omega, by simp, by simp, Ow.nil (by omega), Inc.refl _, Nat.le_refl _⟩, junk (by kernel_rfl)⟩) ?_
  intro n e h' hin
  rw [hI1] at hin
  obtain ⟨i, wv, A, l, h1', rfl, z, hinv, J, rfl⟩ := hin
  obtain ⟨rfl, hi, hll, hmem, ow, ib, hbA⟩ := hinv
  have hwi : IntKind.i64.wrap ((i : Int) + 1) = ((i + 1 : Nat) : Int) := by rw [zae (by omega) (by omega)]; omega
  have hvv := zaH wv
  simp -implicitDefEqProofs only [syms, symx, seval, c192]
  refine zaw (fun hlt => ?_) (fun hlt => ?_)
  rotate_left
  · have he : i = a.cnt := by omega
    rw [he] at hmem
    repeat' ( simp -implicitDefEqProofs only [syms, symx, seval, c192, hvv])
    exact hk _ _ _ (z.upW _ _ (by omega)) ((ow.sl (by decide)).lay _ _) (by omega) hmem
  have hat := Go.Am.args_at (a := a) (i := i) (by omega)
  rcases hr0 : a.arg i with ⟨rv, rs⟩
  rw [hr0] at hat
  have hr : a.args[(i : Int).toNat]? = some ⟨rv, rs⟩ := by rw [Int.toNat_natCast]; exact hat
  have hup : ∀ x, (∃ j : Nat, j < i + 1 ∧ (a.arg j).v = bv ∧ (a.arg j).s = x) ↔ (∃ j : Nat, j < i ∧ (a.arg j).v = bv ∧ (a.arg j).s = x) ∨ (rv = bv ∧ rs = x) := by
    intro x
    constructor
    · rintro ⟨j, hj, e⟩
      by_cases hjk : j = i
      · subst hjk
        rw [hr0] at e
        exact .inr e
      · exact .inl ⟨j, by omega, e⟩
    · rintro (⟨j, hj, e⟩ | e)
      · exact ⟨j, by omega, e⟩
      · exact ⟨i, by omega, by rw [hr0]; exact e⟩
  repeat' (first | simp -implicitDefEqProofs only [syms, symx, seval, c192, zaP, zaC, List.all_cons, List.all_nil, Am.one, Bool.and_true, Bool.true_and, Bool.and_self, List.set_cons_zero, List.set_cons_succ, st4, st3, st9, st23, st26, st29, zcj, TermD.val, TermD.cells, hvv] | with_reducible_and_instances refine zoW (sw.mono ib) zjQ sz23 (by omega) hr (fun p hp => ?_) | with_reducible_and_instances refine ldt hp ag23 sz23 ?_)
  have hskip : (¬ rv = bv ∨ rs ∈ l) → ∀ x, x ∈ l ↔ ∃ j : Nat, j < i + 1 ∧ (a.arg j).v = bv ∧ (a.arg j).s = x := by
    intro hs x
    rw [hup, ← hmem]
    refine ⟨.inl, fun e => e.elim id (fun e => ?_)⟩
    rcases hs with hs | hs
    · exact absurd e.1 hs
    · rw [← e.2]; exact hs
  have htake : rv = bv → ∀ x, x ∈ l ++ [rs] ↔ ∃ j : Nat, j < i + 1 ∧ (a.arg j).v = bv ∧ (a.arg j).s = x := by
    intro hs x
    rw [hup, ← hmem, List.mem_append, List.mem_singleton]
    exact ⟨fun e => e.imp id (fun e => ⟨hs, e.symm⟩), fun e => e.imp id (fun e => e.2.symm)⟩
  have b1 : (true == false) = false := rfl
  have b2 : (false == true) = false := rfl
  have b3 : (true == true) = true := rfl
  have b4 : (false == false) = true := rfl
  have hzp := z.size
  cases rv
  all_goals
    cases bv
    all_goals
      repeat' ( simp -implicitDefEqProofs only [syms, symx, seval, c192, zvo, b1, b2, b3, b4, hvv])
  all_goals first
    | (rw [hwi]
       have hsk := hskip (.inl (by decide))
       refine zdC (z.upW _ _ (by omega)) (fun H z hO hI => ?_)
       (rw [hI1]; with_reducible refine zac (m := _) ?_ ⟨i + 1, wv, A, l, _, rfl, z, ⟨rfl, by omega, by omega, hsk, ow.mono hI, ib.trans hI, hbA⟩, junk (by kernel_rfl)⟩; omega))
    | skip
  all_goals
    refine zfM l wv rs _ ((ow.sl (by decide)).lay _ _) (by omega) _ (fun h' x => ?_)
    have q0 := Holds.top (i := 0) x rfl
    ((skip); replace z := z.overW x (by (try simp only [lsz]); omega); (try replace ow := ow.over x); (try replace ib := ib.over x); rw [zaa h'])
    cases hin : l.any fun x => decide (rs = x)
    rotate_left
    · have hsk := hskip (.inr (by obtain ⟨y, hy, e⟩ := List.any_eq_true.1 hin; rw [of_decide_eq_true e]; exact hy))
      repeat' (first | simp -implicitDefEqProofs only [syms, symx, seval, c192, Bool.not_true] | ((with_reducible_and_instances apply zaf); (· rfl)))
      rw [hwi]
      (rw [hI1]; with_reducible refine zac (m := _) ?_ ⟨i + 1, wv, A, l, _, rfl, z, ⟨rfl, by omega, by omega, hsk, ow, ib, hbA⟩, junk (by kernel_rfl)⟩; omega)
    have htk := htake rfl
    repeat' (first | simp -implicitDefEqProofs only [syms, symx, seval, c192, Bool.not_false, q0.lay, hvv] | ((with_reducible_and_instances apply zaf); (· rfl)))
    simp -implicitDefEqProofs only [syms, symx, seval, c192, za2, zw2]
  all_goals
    refine zlH (i := 0) (cs := [.string rs]) (x := rs) ds49 zf0 rfl (by decide) (by rfl) z.size ow rfl (by omega) (by omega) (fun w3 h3 A3 ow3 cg3 hA3 => ?_)
    have hfA := ow.fresh
    have ib3 := Inc.chg (ib.trans (Inc.lay _ _ _)) cg3 hbA
    have hbs := ib.size
    replace z := (z.upW _ _ (by omega)).step cg3 (by omega)
    rw [zaa h3]
    have hvw3 := zaH w3
    repeat' ( simp -implicitDefEqProofs only [syms, symx, seval, c192, hvw3])
    rw [hwi]
    clear ow q0
    (rw [hI1]; with_reducible refine zac (m := _) ?_ ⟨i + 1, w3, A3, l ++ [rs], _, rfl, z, ⟨rfl, by omega, by rw [List.length_append, List.length_singleton]; omega, htk, ow3, ib3, by omega⟩, junk (by kernel_rfl)⟩; omega)
theorem zpc (a : AtomD) (h : Heap) (K : Value → Heap → Prop) (hk : ∀ w l h', Ext h h' → Sl Rep.str h' w l → l.length ≤ 4 → (∀ x, x ∈ l ↔ zc7 a x) → K w h') : Ok Tryz.prog tab ov 165 [a.val] h K := by
  rw [zaa h]
  have z := Ext.refl h
  refine Ok.into rfl zrz (zaB N165) rfl (m := 4) rfl ?_
  repeat' ( simp -implicitDefEqProofs only [syms, symx, seval, c165, zay, ↓zax, zau, zaj])
  refine zrL a true _ _ (fun w l h' x s hl hm => ?_)
  ((skip); replace z := z.overW x (by (try simp only [lsz]); omega); rw [zaa h'])
  have hvw := zaH w
  repeat' ( simp -implicitDefEqProofs only [syms, symx, seval, c165, hvw])
  exact hk _ _ _ (z.upW _ _ (by omega)) (s.lay _ _) hl (fun x => (hm x).trans varIn_iff.symm)
end Go.Proofs.YtemapihoobmonaaGreatDoor
