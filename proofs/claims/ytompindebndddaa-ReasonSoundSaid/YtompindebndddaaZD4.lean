/- Walks: numbers alike; ranks Written out by fill2.py. No condition. -/
import Derived.Test.YtompindebndddaaG37
import Derived.Test.YtompindebndddaaG38
namespace Go.Proofs.Ytompindebndddaa
open Go.Am
set_option linter.unusedSimpArgs false
set_option linter.unusedVariables false
set_option maxRecDepth 100000
set_option maxHeartbeats 0
theorem mk_ints (n : Nat) (hn : n ≤ 1000) (h : Heap) : makeSliceA tab 32 (.int .i64 n) (.int .i64 n) h = some (.slice (some ⟨h.size, 0, none⟩) n n, h.push (.row (ints (List.replicate n 0)) 3 false)) := by
  unfold makeSliceA
  simp only [ds32, tab_info3, Option.bind_some]
  rw [if_pos (by omega)]
  rw [zeros_def, Int.toNat_natCast, ints_rep]
theorem ixr_at0 {T : Tab} {t e : TypeId} {v : Value} {h0 h1 : Heap} {kd : IntKind} {i : Int} {bs : List Blk} {w : Nat} {K : Value → Heap → Prop} {l : List ReasonD} {x : ReasonD} (f : Sl Rep.reason h0 v l) (i0 : Inc h0 h1) (hd : T.desc t = some (.slice e)) (hs : sizeA T e = some 13) (hi0 : 0 ≤ i) (hx : l[i.toNat]? = some x)
    (hk : ∀ p b, Sl Rep.atom h0 b x.body → AtP h1 p (x.atom.cells ++ [.int .i64 x.clause, b]) → K p (h1.lay bs w)) : valE (indexAddrA T t v (.int kd i)) (h1.lay bs w) K := by
  have hlt : i < l.length := by
    have := (List.getElem?_eq_some_iff.1 hx).1
    omega
  have key := ix_rule (bs := []) (w := 0) (kd := kd) (K := fun p _ => K p (h1.lay bs w)) f hd hs hi0 hlt (fun x' p cs g1 g2 g3 => by
    rw [hx] at g1
    cases g1
    obtain ⟨b, rfl, hb⟩ := g2
    exact hk p b hb (g3.mono i0))
  revert key
  cases indexAddrA T t v (.int kd i) <;> exact id
theorem ok_ranks (l : List ReasonD) (v : Value) (h : Heap) (hl : Sl Rep.reason h v l) (hs : l.length ≤ 1000) (hbs : ∀ r ∈ l, r.body.length ≤ 100) (K : Value → Heap → Prop)
    (hk : ∀ h' w, Ext h h' → Sl Rep.int h' w (ranksD l l.length) → K w h') : Ok Try.prog tab ov 19 [v] h K := by
  rw [lay_nil h]
  have z := Ext.refl h
  refine Ok.into rfl tab_fn19 (bodyF N19) rfl (m := 59) rfl ?_
  simp -implicitDefEqProofs only [syms, symx, seval, c19]
  repeat' (( with_reducible_and_instances refine ln_rule (hl.mono z.inc) ds24 ?_) <;> simp -implicitDefEqProofs only [syms, symx, seval, c19, mk_ints l.length hs])
  refine W_fold (fun h' x hq => ?_)
  have q0 := hq 0 _ rfl
  clear hq
  (replace z := z.overW x (by (try simp only [lsz]); omega); rw [lay_nil h'])
  obtain ⟨I1, hI1⟩ : ∃ I : Nat → Env → Heap → Prop, I = (fun n e h' => ∃ (i : Nat) (h1 : Heap), h' = h1.lay [] h1.low ∧ Ext h h1 ∧ (n = l.length - i ∧ i ≤ l.length ∧ Holds h1 (h.size + 0) (.row (ints (ranksD l i ++ List.replicate (l.length - i) 0)) 3 false)) ∧ ∃ J : Nat → Value, e = (v :: jr J 1 2 (.slice (some ⟨h.size + 0, 0, none⟩) l.length l.length :: jr J 4 9 (v :: .int .i64 l.length :: .int .i64 i :: jr J 16 44 ([]))))) := ⟨_, rfl⟩
  refine W_loopN I1 _ (by rw [hI1]; exact ⟨0, _, rfl, z, ⟨rfl, by omega, q0⟩, junk (by kernel_rfl)⟩) ?_
  intro n e h' hin
  rw [hI1] at hin
  obtain ⟨i, h1', rfl, z, hinv, J, rfl⟩ := hin
  clear q0
  obtain ⟨rfl, hi, q0⟩ := hinv
  have hw : IntKind.i64.wrap ((i : Int) + 1) = ((i + 1 : Nat) : Int) := by rw [wrap_i64 (by omega) (by omega)]; omega
  simp -implicitDefEqProofs only [syms, symx, seval, c19]
  refine forkD (fun hlt => ?_) (fun hlt => ?_)
  rotate_left
  · repeat' ( simp -implicitDefEqProofs only [syms, symx, seval, c19])
    obtain rfl : i = l.length := by omega
    rw [Nat.sub_self, List.replicate_zero, List.append_nil] at q0
    have hsl := sl_ints q0 (by rw [ranksD_length]; exact hs)
    rw [ranksD_length] at hsl
    exact hk _ _ (z.upW _ _ (by omega)) (hsl.lay _ _)
  rw [rowR_start l i (by omega)] at q0
  obtain ⟨r, hr, hr'⟩ := amElem (l := l) (i := i) hlt
  have hrb := hbs r (List.mem_of_getElem? hr')
  simp -implicitDefEqProofs only [syms, symx, seval, c19]
  repeat' ((first | with_reducible_and_instances refine ixr_at0 hl z.inc ds24 sz41 (by omega) hr (fun p bd hbd hp => ?_) | with_reducible_and_instances refine ldr hp ag41 sz41 ?_) <;> simp -implicitDefEqProofs only [syms, symx, seval, c19])
  have hall := one_re (a := r.atom) (n := r.clause) hbd.one
  have hvb := vSelf bd
  simp -implicitDefEqProofs only [syms, symx, seval, c19, lay_set, storeO_row, List.all_cons, List.all_nil, Am.one, Bool.and_true, Bool.true_and, Bool.and_self, List.set_cons_zero, List.set_cons_succ, st4, st3, st9, st36, st39, st47, st41, st192, len_re, hall, dec13, drop13, if_true, cell_re2, hvb]
  repeat' (( with_reducible_and_instances refine ln_rule hbd ds23 ?_) <;> simp -implicitDefEqProofs only [syms, symx, seval, c19, lay_set, storeO_row, List.all_cons, List.all_nil, Am.one, Bool.and_true, Bool.true_and, Bool.and_self, List.set_cons_zero, List.set_cons_succ, st4, st3, st9, st36, st39, st47, st41, st192, len_re, hall, dec13, drop13, if_true, cell_re2, hvb])
  refine W_fold (fun h' x hq => ?_)
  have q9 := hq 0 _ rfl
  clear hq
  (replace z := z.overW x (by (try simp only [lsz]); omega); (try replace q0 := q0.over x); rw [lay_nil h'])
  clear q9
  have hout := ranksD_bound l i (by omega)
  have hout2 : ∀ (k : Nat) x, (ranksD l i)[k]? = some x → 0 ≤ x ∧ x ≤ i := fun k x hx => by
    have h1 := hout k x hx
    have h2 := (List.getElem?_eq_some_iff.1 hx).1
    rw [ranksD_length] at h2
    omega
  obtain ⟨I2, hI2⟩ : ∃ I : Nat → Env → Heap → Prop, I = (fun n e h' => ∃ (j : Nat) (m : Int) (h1 : Heap), h' = h1.lay [] h1.low ∧ Ext h h1 ∧ (n = r.body.length - j ∧ j ≤ r.body.length ∧ m = (r.body.take j).foldl (upR l (ranksD l i) i) 0 ∧ Holds h1 (h.size + 0) (.row (ints (rowR l i m)) 3 false)) ∧ ∃ J : Nat → Value, e = (v :: jr J 1 2 (.slice (some ⟨h.size + 0, 0, none⟩) l.length l.length :: .int .i64 i :: jr J 5 8 (v :: .int .i64 l.length :: .int .i64 i :: jr J 16 5 (bd :: .int .i64 r.body.length :: .int .i64 j :: jr J 24 36 ([])))))) := ⟨_, rfl⟩
  refine W_loopN I2 _ (by rw [hI2]; exact ⟨0, 0, _, rfl, z, ⟨rfl, by omega, rfl, q0⟩, junk (by kernel_rfl)⟩) ?_
  intro n e h' hin
  rw [hI2] at hin
  obtain ⟨j, m, h2', rfl, z, hinv, J, rfl⟩ := hin
  clear q0
  obtain ⟨rfl, hj, hm, q0⟩ := hinv
  have hmb : 0 ≤ m ∧ m ≤ i := by rw [hm]; exact fold_bound hout2 _ 0 (by omega)
  have hw2 : IntKind.i64.wrap ((j : Int) + 1) = ((j + 1 : Nat) : Int) := by rw [wrap_i64 (by omega) (by omega)]; omega
  have hin : (0 : Int) ≤ (i : Int) ∧ (i : Int) < (l.length : Int) := by omega
  have hgi := ints_get (rowR_self l i m)
  have hz := z.size
  simp -implicitDefEqProofs only [syms, symx, seval, c19]
  refine forkD (fun hlt2 => ?_) (fun hlt2 => ?_)
  rotate_left
  · repeat' ( simp -implicitDefEqProofs only [syms, symx, seval, c19, hin, and_self, if_true, Nat.mul_one, q0.lay, hgi])
    have hwm : IntKind.i64.wrap (m + 1) = m + 1 := wrap_i64 (by omega) (by omega)
    rw [hwm]
    refine store_int q0 sz3 (by rw [rowR_length (by omega)]; omega) (fun h' q0' c => ?_)
    rw [rowR_set, rowR_end l i r hr' m (by rw [hm, List.take_of_length_le (by omega)])] at q0'
    replace z := (z.upW [] h2'.low (by omega)).step c (by omega)
    rw [lay_nil h']
    repeat' ( simp -implicitDefEqProofs only [syms, symx, seval, c19])
    rw [hw]
    (rw [hI1]; with_reducible refine loopN_normal (m := _) ?_ ⟨i + 1, _, rfl, z, ⟨rfl, by omega, q0'⟩, junk (by kernel_rfl)⟩; omega)
  obtain ⟨a, ha, ha'⟩ := amElem (l := r.body) (i := j) hlt2
  simp -implicitDefEqProofs only [syms, symx, seval, c19]
  repeat' ((first | with_reducible_and_instances refine ixa_at (hbd.mono z.inc) ds23 sz39 (by omega) ha (fun p hp => ?_) | with_reducible_and_instances refine lda hp ag39 sz39 ?_) <;> simp -implicitDefEqProofs only [syms, symx, seval, c19])
  repeat' ( simp -implicitDefEqProofs only [syms, symx, seval, c19, lay_set, storeO_row, List.all_cons, List.all_nil, Am.one, Bool.and_true, Bool.true_and, Bool.and_self, List.set_cons_zero, List.set_cons_succ, st4, st3, st9, st36, st39, st47, st41, st192, cells_atom, siz_atom, len_atom, one_atom, drop11, dec11, List.append_nil, if_true, ↓cut_atom, agg_atom, valE_atom])
  refine ok_find l v a _ (hl.mono (z.upW _ _ (by omega)).inc) hs _ (fun h' v' x hv' => ?_)
  (( skip); replace z := z.overW x (by (try simp only [lsz]); omega); (try replace q0 := q0.over x); rw [lay_nil h'])
  have htk : (r.body.take (j + 1)).foldl (upR l (ranksD l i) i) 0 = upR l (ranksD l i) i m a := by
    rw [List.take_add_one, ha', List.foldl_append, ← hm]
    rfl
  have hany := idx_any (fun x : ReasonD => decide (x.atom = a)) l
  by_cases hat : 0 ≤ atR l a
  rotate_left
  · have h1 : (l.any fun x => decide (x.atom = a)) = false := by
      rw [← hany]
      exact decide_eq_false hat
    rw [h1] at hv'
    simp only [Bool.false_eq_true, if_false] at hv'
    subst hv'
    have hup : upR l (ranksD l i) i m a = m := by unfold upR; rw [if_neg (by omega)]
    rw [hup] at htk
    repeat' ( simp -implicitDefEqProofs only [syms, symx, seval, c19])
    rw [hw2]
    (rw [hI2]; with_reducible refine loopN_normal (m := _) ?_ ⟨j + 1, m, _, rfl, z, ⟨rfl, by omega, htk.symm, q0⟩, junk (by kernel_rfl)⟩; omega)
  have h1 : (l.any fun x => decide (x.atom = a)) = true := by
    rw [← hany]
    exact decide_eq_true hat
  rw [h1] at hv'
  simp only [if_true] at hv'
  obtain ⟨k, hkk⟩ := Int.eq_ofNat_of_zero_le hat
  have hkk2 : idxP (fun x : ReasonD => decide (x.atom = a)) l = (k : Int) := hkk
  rw [hkk2] at hv'
  subst hv'
  simp -implicitDefEqProofs only [syms, symx, seval, c19]
  refine forkD (fun hki => ?_) (fun hki => ?_)
  rotate_left
  · repeat' ( simp -implicitDefEqProofs only [syms, symx, seval, c19])
    have hup : upR l (ranksD l i) i m a = m := by unfold upR; rw [if_neg (by omega)]
    rw [hup] at htk
    rw [hw2]
    (rw [hI2]; with_reducible refine loopN_normal (m := _) ?_ ⟨j + 1, m, _, rfl, z, ⟨rfl, by omega, htk.symm, q0⟩, junk (by kernel_rfl)⟩; omega)
  have hin2 : (0 : Int) ≤ (k : Int) ∧ (k : Int) < (l.length : Int) := by omega
  have hgk := ints_get (rowR_old l i k m (by omega))
  repeat' ( simp -implicitDefEqProofs only [syms, symx, seval, c19])
  refine (drawN (by simp only [c19])) (z.upW _ _ (by omega)) ?_
  repeat' (first | simp -implicitDefEqProofs only [syms, symx, seval, c19, hin, hin2, and_self, if_true, Nat.mul_one, q0.lay, hgi, hgk] | ((with_reducible_and_instances apply max_int); (· rfl); (· rfl)))
  have hup : (if m < (ranksD l i).getD k 0 then (ranksD l i).getD k 0 else m) = upR l (ranksD l i) i m a := by
    have hup0 : upR l (ranksD l i) i m a = max m ((ranksD l i).getD k 0) := by
      unfold upR
      rw [if_pos ⟨hat, by omega⟩, hkk]
      rfl
    rw [hup0, Int.max_def]
    split <;> split <;> omega
  rw [hup]
  refine store_int q0 sz3 (by rw [rowR_length (by omega)]; omega) (fun h2 q0' c => ?_)
  rw [rowR_set] at q0'
  have hz2 := z.size
  refine KOpsX_chg (A := h.size + 0) (by kernel_rfl) (by rw [lay_size]; omega) (by omega) (by simpa only [lay_lay, lay_size, List.append_nil, List.length_cons, List.length_nil, Nat.add_zero] using c) ?_
  replace z := (z.upW [] (h'.size + 0) (by omega)).step c (by omega)
  rw [lay_nil h2]
  clear q0
  repeat' (first | simp -implicitDefEqProofs only [syms, symx, seval, c19] | ((with_reducible refine ⟨z.grw.lay _ _, ?_⟩); (intro _ h' zz x _); (try simp only [lay_lay, List.append_nil] at x); (try replace q0' := q0'.over x); (replace z := zz); (clear zz); rw [lay_nil h']))
  rw [hw2]
  (rw [hI2]; with_reducible refine loopN_normal (m := _) ?_ ⟨j + 1, _, _, rfl, z, ⟨rfl, by omega, htk.symm, q0'⟩, junk (by kernel_rfl)⟩; omega)
end Go.Proofs.Ytompindebndddaa
