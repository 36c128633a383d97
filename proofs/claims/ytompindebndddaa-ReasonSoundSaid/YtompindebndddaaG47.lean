/- Walks: sorting in place: Am.one block Written out by fill2.py. No condition. -/
import Derived.Test.YtompindebndddaaG32
import Derived.Test.YtompindebndddaaG26
import Derived.Test.YtompindebndddaaG35
import Derived.Test.YtompindebndddaaG27
import Derived.Test.YtompindebndddaaG33
import Derived.Test.YtompindebndddaaG44
import Derived.Test.YtompindebndddaaG46
namespace Go.Proofs.Ytompindebndddaa
open Go.Am
set_option linter.unusedSimpArgs false
set_option linter.unusedVariables false
set_option maxRecDepth 100000
set_option maxHeartbeats 0
theorem ok_hasR (l : List AtomD) (a : AtomD) (v : Value) (h : Heap) (hl : Sl Rep.atom h v l) (hn : l.length ≤ 100000) (hlt : ∀ x ∈ l, x.light = true) (ha : a.light = true) (K : Value → Heap → Prop)
    (hk : ∀ h', Ext h h' → K (.bool (hasA l a)) h') : Ok Try.prog tab ov 20 [v, a.val] h K := by
  rw [lay_nil h]
  have z := Ext.refl h
  have hva := vSelf v
  have hln := fun (hh : Heap) => hl.lenA ds23 hh
  refine Ok.into rfl tab_fn20 (bodyF N20) rfl (m := 17) rfl ?_
  simp -implicitDefEqProofs only [syms, symx, seval, c20, cells_atom, hva]
  refine W_fold (fun h' x hq => ?_)
  have q0 := hq 0 _ rfl
  clear hq
  (replace z := z.overW x (by (try simp only [lsz]); omega); rw [lay_nil h'])
  obtain ⟨I1, hI1⟩ : ∃ I : Nat → Env → Heap → Prop, I = (fun n e h' => ∃ (i : Nat) (h1 : Heap), h' = h1.lay [] h1.low ∧ Ext h h1 ∧ (n = l.length - i ∧ i ≤ l.length ∧ (∀ x ∈ l.take i, ¬ textL x = textL a) ∧ Holds h1 (h.size + 0) (.row a.cells 39 false)) ∧ ∃ J : Nat → Value, e = (v :: jr J 1 2 (.pointer (some ⟨h.size + 0, 0, none⟩) :: J 4 :: .int .i64 i :: jr J 6 13 ([])))) := ⟨_, rfl⟩
  refine W_loopN I1 _ (by rw [hI1]; exact ⟨0, _, rfl, z, ⟨rfl, by omega, by simp, q0⟩, junk (by kernel_rfl)⟩) ?_
  intro n e h' hin
  rw [hI1] at hin
  obtain ⟨i, h1', rfl, z, hinv, J, rfl⟩ := hin
  clear q0
  obtain ⟨rfl, hi, hno, q0⟩ := hinv
  have hwi : IntKind.i64.wrap ((i : Int) + 1) = ((i + 1 : Nat) : Int) := by rw [wrap_i64 (by omega) (by omega)]; omega
  simp -implicitDefEqProofs only [syms, symx, seval, c20, hva, hln]
  refine forkD (fun hlt1 => ?_) (fun hlt1 => ?_)
  rotate_left
  · rw [List.take_of_length_le (by omega)] at hno
    have e : hasA l a = false := by
      cases e : hasA l a
      · rfl
      · obtain ⟨x, hx, e2⟩ := hasA_iff.1 e
        exact absurd e2 (hno x hx)
    rw [e] at hk
    repeat' ( simp -implicitDefEqProofs only [syms, symx, seval, c20, hva])
    exact hk _ (z.upW _ _ (by omega))
  have hr : l[(i : Int).toNat]? = some (l.getD i noAtomD) := getD_at (by omega)
  have hmem : l.getD i noAtomD ∈ l := List.mem_of_getElem? hr
  simp -implicitDefEqProofs only [syms, symx, seval, c20, hva]
  with_reducible first | refine drawN (by simp only [c20]) (z.upW _ _ (by omega)) ?_
  simp -implicitDefEqProofs only [syms, symx, seval, c20, hva]
  repeat' ((first | with_reducible_and_instances refine ixa_at (hl.mono z.inc) ds23 sz39 (by omega) hr (fun p hp => ?_) | with_reducible_and_instances refine lda hp ag39 sz39 ?_) <;> simp -implicitDefEqProofs only [syms, symx, seval, c20, hva, q0.lay, cells_atom, ↓cut_atom, agg_atom, valE_atom])
  refine ok_cmpR _ a (hlt _ hmem) ha _ _ (fun h' x => ?_)
  (( ((with_reducible refine KOpsX_call ?_ ?_ ?_); (· exact (by (try simp only [lsz]); have := z.size; omega)); (·  exact x )) ); replace z := z.overW x (by (try simp only [lsz]); omega); (try replace q0 := q0.over x); rw [lay_nil h'])
  simp -implicitDefEqProofs only [syms, symx, seval, c20]
  refine forkB (fun hc => ?_) (fun hc => ?_)
  · have e : hasA l a = true := hasA_iff.2 ⟨_, hmem, cmpD_zero.1 hc⟩
    rw [e] at hk
    repeat' (first | simp -implicitDefEqProofs only [syms, symx, seval, c20] | ((with_reducible refine ⟨z.grw.lay _ _, ?_⟩); (intro _ h' zz x _); (try simp only [lay_lay, List.append_nil] at x); (try replace q0 := q0.over x); (replace z := zz); (clear zz); rw [lay_nil h']))
    exact hk _ (z.upW _ _ (by omega))
  · have hc2 : ¬ textL (l.getD i noAtomD) = textL a := fun e => absurd (cmpD_zero.2 e) hc
    have hno2 := take_all (i := i) (P := fun x : AtomD => ¬ textL x = textL a) (getD_at (l := l) (i := i) (by omega)) hno hc2
    repeat' (first | simp -implicitDefEqProofs only [syms, symx, seval, c20] | ((with_reducible refine ⟨z.grw.lay _ _, ?_⟩); (intro _ h' zz x _); (try simp only [lay_lay, List.append_nil] at x); (try replace q0 := q0.over x); (replace z := zz); (clear zz); rw [lay_nil h']))
    rw [hwi]
    (rw [hI1]; with_reducible refine loopN_normal (m := _) ?_ ⟨i + 1, _, rfl, z, ⟨rfl, by omega, hno2, q0⟩, junk (by kernel_rfl)⟩; omega)
theorem amInc_chg {a b d : Heap} {A : Nat} (i : Inc a b) (c : Chg A b d) (hA : a.size ≤ A) : Inc a d := ⟨Nat.le_trans i.size c.size, fun B hB hd => (c.get B (Nat.lt_of_lt_of_le hB i.size) (by omega)).trans (i.get B hB hd)⟩
theorem half_lo {n : Nat} (h : 2 ≤ n) : n / 2 < n ∧ 0 < n / 2 ∧ n - n / 2 < n := by omega
theorem ok_sortedR : ∀ (k : Nat) (l : List AtomD) (v : Value) (h : Heap), l.length ≤ k → Sl Rep.atom h v l → l.length ≤ 100000 → (∀ x ∈ l, x.light = true) → ∀ (K : Value → Heap → Prop),
    (∀ h' w, Ext h h' → OwnX h h' 39 w (sortA l) → K w h') → Ok Try.prog tab ov 50 [v] h K
  | k, l, v, h, hkl, hl, hn, hlt, K, hk => by
    rw [lay_nil h]
    have z := Ext.refl h
    have hva := vSelf v
    have hln := fun (hh : Heap) => hl.lenA ds23 hh
    refine Ok.into rfl tab_fn50 (bodyF N50) rfl (m := 68) rfl ?_
    simp -implicitDefEqProofs only [syms, symx, seval, c50, hva, hln]
    refine forkD (fun hlt2 => ?_) (fun hlt2 => ?_)
    · repeat' ( simp -implicitDefEqProofs only [syms, symx, seval, c50, hva])
      simp -implicitDefEqProofs only [syms, symx, seval, c50, w_append, sty23]
      obtain ⟨news, hs, hsr⟩ := src_sl (A := h.size + 1) (r := Rep.atom) (by decide) (hl.lay [.row [] 39 false] h.low) (fun cs y hr => hr)
      have f : Ow Rep.atom h (h.lay [.row [] 39 false] h.low) 39 (h.size + 1) (.slice (some ⟨h.size + 0, 0, none⟩) 0 0) [] :=
        .inl ⟨by omega, rfl, .inr ⟨h.size + 0, 0, rfl, by omega, by rw [lay_size]; simp, [], 39, false, by rw [lay_get]; rfl⟩⟩
      obtain ⟨w, h', A', e1, e2, e3, e4, e5⟩ := app_ow (t := 23) ds23 tab_info39 rfl (by decide) (by rw [lay_size]; omega) f hs hsr (by simp only [List.length_nil]; omega) (by simp only [List.length_nil]; omega)
      rw [e1]
      have hvw := vSelf w
      replace z := (Ext.refl h).stepW e3 (by omega) (by omega)
      rw [lay_nil h']
      repeat' ( simp -implicitDefEqProofs only [syms, symx, seval, c50, hvw])
      rw [sortA_one (by omega)] at hk
      exact hk _ _ (z.upW _ _ (by omega)) (own_of_ow ((by simpa using e2 : Ow Rep.atom h h' 39 A' w l).mono (Inc.lay _ _ _)))
    match k, hkl with
    | 0, hkl => exact absurd hkl (by omega)
    | k + 1, hkl =>
      have hq : IntKind.i64.wrap (((l.length : Nat) : Int).tdiv 2) = ((l.length / 2 : Nat) : Int) := by
        rw [Int.tdiv_eq_ediv_of_nonneg (by omega), wrap_i64 (by omega) (by omega)]
        omega
      obtain ⟨g1, g2, g3⟩ := half_lo (n := l.length) (by omega)
      simp -implicitDefEqProofs only [syms, symx, seval, c50, hva, hln]
      rw [bin_quo (by decide), hq]
      repeat' ( simp -implicitDefEqProofs only [syms, symx, seval, c50, hva])
      with_reducible first | refine drawN (by simp only [c50]) (z.upW _ _ (by omega)) ?_
      simp -implicitDefEqProofs only [syms, symx, seval, c50, hva]
      repeat' (( with_reducible_and_instances refine to_rule (hl.mono z.inc) (by decide) ds23 sz39 (show l.length / 2 ≤ l.length by omega) (fun v1 hv1 => ?_)) <;> simp -implicitDefEqProofs only [syms, symx, seval, c50, hva])
      have tl1 : (l.take (l.length / 2)).length = l.length / 2 := by rw [List.length_take]; omega
      have tl2 : (l.drop (l.length / 2)).length = l.length - l.length / 2 := by rw [List.length_drop]
      have lt1 : ∀ x ∈ l.take (l.length / 2), x.light = true := fun x hx => hlt x (List.mem_of_mem_take hx)
      have lt2 : ∀ x ∈ l.drop (l.length / 2), x.light = true := fun x hx => hlt x (List.mem_of_mem_drop hx)
      refine ok_sortedR k (l.take (l.length / 2)) v1 _ (by omega) (hv1.lay _ _) (by omega) lt1 _ (fun h' w1 x o1 => ?_)
      replace o1 := (o1.own (by have := sortA_length (l.take (l.length / 2)); omega)).sl
      (( ((with_reducible refine KOpsX_call ?_ ?_ ?_); (· exact (by (try simp only [lsz]); have := z.size; omega)); (·  exact x )) ); replace z := z.overW x (by (try simp only [lsz]); omega); rw [lay_nil h'])
      have hv1a := vSelf w1
      simp -implicitDefEqProofs only [syms, symx, seval, c50, hva, hv1a]
      repeat' (( with_reducible_and_instances refine from_rule (hl.mono z.inc) (by decide) ds23 sz39 (show l.length / 2 ≤ l.length by omega) (fun v2 hv2 => ?_)) <;> simp -implicitDefEqProofs only [syms, symx, seval, c50, hva, hv1a])
      refine ok_sortedR k (l.drop (l.length / 2)) v2 _ (by omega) ((by assumption : Sl Rep.atom _ v2 _).lay _ _) (by omega) lt2 _ (fun h' w2 x o2 => ?_)
      replace o2 := (o2.own (by have := sortA_length (l.drop (l.length / 2)); omega)).sl
      (( ((with_reducible refine KOpsX_call ?_ ?_ ?_); (· exact (by (try simp only [lsz]); have := z.size; omega)); (·  exact x )) ); replace z := z.overW x (by (try simp only [lsz]); omega); (try replace o1 := o1.over x); rw [lay_nil h'])
      have hv2a := vSelf w2
      repeat' (first | simp -implicitDefEqProofs only [syms, symx, seval, c50, hv1a, hv2a] | ((with_reducible refine ⟨z.grw.lay _ _, ?_⟩); (intro _ h' zz x _); (try simp only [lay_lay, List.append_nil] at x); (try replace o1 := o1.over x); (try replace o2 := o2.over x); (replace z := zz); (clear zz); rw [lay_nil h']))
      have hll1 := sortA_length (l.take (l.length / 2))
      have hll2 := sortA_length (l.drop (l.length / 2))
      have hmg := sortA_app (l.take (l.length / 2)) (l.drop (l.length / 2))
      rw [List.take_append_drop] at hmg
      have hlg1 := sortA_light lt1
      have hlg2 := sortA_light lt2
      generalize sortA (l.take (l.length / 2)) = s1 at *
      generalize sortA (l.drop (l.length / 2)) = s2 at *
      have hz0 := z.size
      obtain ⟨H0, hH0⟩ : ∃ H0, H0 = h' := ⟨_, rfl⟩
      rw [← hH0] at o1 o2 hz0
      obtain ⟨I1, hI1⟩ : ∃ I : Nat → Env → Heap → Prop, I = (fun n e h' => ∃ (va vb wo : Value) (xs ys out : List AtomD) (A : Nat) (h1 : Heap), h' = h1.lay [] h1.low ∧ Ext h h1 ∧ (n = xs.length + ys.length ∧ out ++ mergeA xs ys = sortA l ∧ Sl Rep.atom H0 va xs ∧ Sl Rep.atom H0 vb ys ∧ Ow Rep.atom H0 h1 39 A wo out ∧ Inc H0 h1 ∧ (∀ x ∈ xs, x.light = true) ∧ (∀ x ∈ ys, x.light = true) ∧ out.length + xs.length + ys.length ≤ l.length) ∧ ∃ J : Nat → Value, e = (jr J 0 4 (va :: vb :: wo :: jr J 7 62 ([])))) := ⟨_, rfl⟩
      refine W_loopN I1 _ (by rw [hI1]; exact ⟨w1, w2, .slice none 0 0, s1, s2, [], H0.size, _, rfl, z, ⟨rfl, by simpa using hmg, o1, o2, Ow.nil (Nat.le_refl _), by rw [hH0]; exact Inc.refl _, hlg1, hlg2, by simp only [List.length_nil]; omega⟩, junk (by kernel_rfl)⟩) ?_
      intro n e h' hin
      rw [hI1] at hin
      obtain ⟨va, vb, wo, xs, ys, out, A, h1', rfl, z, hinv, J, rfl⟩ := hin
      clear o1 o2
      obtain ⟨rfl, hout, sa, sb, ow, i1, la, lb, hsum⟩ := hinv
      have hvA := vSelf va
      have hvB := vSelf vb
      have hvO := vSelf wo
      have hlA := fun (hh : Heap) => sa.lenA ds23 hh
      have hlB := fun (hh : Heap) => sb.lenA ds23 hh
      have hz1 := z.size
      have hrounds : 0 < xs.length → 0 < ys.length → ∃ x xs' y ys', xs = x :: xs' ∧ ys = y :: ys' := fun h1 h2 => by
        match xs, ys, h1, h2 with
        | x :: xs, y :: ys, _, _ => exact ⟨x, xs, y, ys, rfl, rfl⟩
      have hcat : ¬ (0 < xs.length ∧ 0 < ys.length) → mergeA xs ys = xs ++ ys := fun hh => by
        cases xs with
        | nil => rw [mergeA_nil_left]; rfl
        | cons x xs => cases ys with
          | nil => rw [mergeA_nil_right]; simp
          | cons y ys => exact absurd ⟨by simp, by simp⟩ hh
      simp -implicitDefEqProofs only [syms, symx, seval, c50, hvA, hvB, hvO, hlA, hlB]
      refine forkD (fun f1 => ?_) (fun f1 => ?_)
      rotate_left
      · repeat' ( simp -implicitDefEqProofs only [syms, symx, seval, c50, hvA, hvB, hvO, hlA, hlB])
        simp -implicitDefEqProofs only [syms, symx, seval, c50, w_append, sty23]
        rw [hcat (by omega)] at hout
        have hi1 := i1.size
        have hlen : (out ++ xs).length = out.length + xs.length := List.length_append
        obtain ⟨news1, hs1, hsr1⟩ := src_sl (A := A) (r := Rep.atom) (by decide) ((sa.mono i1).lay [] h1'.low) (fun cs y hr => hr)
        have hf1 := ow.fresh
        refine ap_rule (r := Rep.atom) ds23 tab_info39 rfl (by decide) hi1 ow hs1 hsr1 (by omega) (by omega) (fun w5 h5 A5 o5 c5 hA5 => ?_)
        have i5 := amInc_chg (i1.trans (Inc.lay _ _ _)) c5 hf1
        replace z := (z.upW _ _ (by omega)).step c5 (by omega)
        rw [lay_nil h5]
        have hv5 := vSelf w5
        simp -implicitDefEqProofs only [syms, symx, seval, c50, hv5, hvB, w_append, sty23]
        have hi5 := i5.size
        have hz5 := z.size
        obtain ⟨news2, hs2, hsr2⟩ := src_sl (A := A5) (r := Rep.atom) (by decide) ((sb.mono i5).lay [] h5.low) (fun cs y hr => hr)
        have hf5 := o5.fresh
        refine ap_rule (r := Rep.atom) ds23 tab_info39 rfl (by decide) hi5 o5 hs2 hsr2 (by omega) (by omega) (fun w6 h6 A6 o6 c6 hA6 => ?_)
        replace z := (z.upW _ _ (by omega)).step c6 (by omega)
        rw [lay_nil h6]
        have hv6 := vSelf w6
        repeat' ( simp -implicitDefEqProofs only [syms, symx, seval, c50, hv6])
        rw [List.append_assoc, hout] at o6
        exact hk _ _ (z.upW _ _ (by omega)) (ownX_down (own_of_ow (o6.mono (Inc.lay _ _ _))) hz0)
      simp -implicitDefEqProofs only [syms, symx, seval, c50, hvA, hvB, hvO, hlA, hlB]
      refine forkD (fun f2 => ?_) (fun f2 => ?_)
      rotate_left
      · repeat' ( simp -implicitDefEqProofs only [syms, symx, seval, c50, hvA, hvB, hvO, hlA, hlB])
        simp -implicitDefEqProofs only [syms, symx, seval, c50, w_append, sty23]
        rw [hcat (by omega)] at hout
        have hi1 := i1.size
        have hlen : (out ++ xs).length = out.length + xs.length := List.length_append
        obtain ⟨news1, hs1, hsr1⟩ := src_sl (A := A) (r := Rep.atom) (by decide) ((sa.mono i1).lay [] h1'.low) (fun cs y hr => hr)
        have hf1 := ow.fresh
        refine ap_rule (r := Rep.atom) ds23 tab_info39 rfl (by decide) hi1 ow hs1 hsr1 (by omega) (by omega) (fun w5 h5 A5 o5 c5 hA5 => ?_)
        have i5 := amInc_chg (i1.trans (Inc.lay _ _ _)) c5 hf1
        replace z := (z.upW _ _ (by omega)).step c5 (by omega)
        rw [lay_nil h5]
        have hv5 := vSelf w5
        simp -implicitDefEqProofs only [syms, symx, seval, c50, hv5, hvB, w_append, sty23]
        have hi5 := i5.size
        have hz5 := z.size
        obtain ⟨news2, hs2, hsr2⟩ := src_sl (A := A5) (r := Rep.atom) (by decide) ((sb.mono i5).lay [] h5.low) (fun cs y hr => hr)
        have hf5 := o5.fresh
        refine ap_rule (r := Rep.atom) ds23 tab_info39 rfl (by decide) hi5 o5 hs2 hsr2 (by omega) (by omega) (fun w6 h6 A6 o6 c6 hA6 => ?_)
        replace z := (z.upW _ _ (by omega)).step c6 (by omega)
        rw [lay_nil h6]
        have hv6 := vSelf w6
        repeat' ( simp -implicitDefEqProofs only [syms, symx, seval, c50, hv6])
        rw [List.append_assoc, hout] at o6
        exact hk _ _ (z.upW _ _ (by omega)) (ownX_down (own_of_ow (o6.mono (Inc.lay _ _ _))) hz0)
      obtain ⟨ax, xs', ay, ys', rfl, rfl⟩ := hrounds (by omega) (by omega)
      have hax := la ax (List.mem_cons_self ..)
      have hay := lb ay (List.mem_cons_self ..)
      obtain ⟨va', ga, sa'⟩ := sa.sub (T := tab) (t := 23) (by decide) ds23 sz39 (BndIs.num .i64 0 1) (BndIs.no _) (show 1 ≤ (ax :: xs').length by simp) (Nat.le_refl _)
      obtain ⟨vb', gb, sb'⟩ := sb.sub (T := tab) (t := 23) (by decide) ds23 sz39 (BndIs.num .i64 0 1) (BndIs.no _) (show 1 ≤ (ay :: ys').length by simp) (Nat.le_refl _)
      rw [List.take_length, List.drop_succ_cons, List.drop_zero] at sa' sb'
      rw [show ((1 : Nat) : Int) = 1 from rfl] at ga gb
      have hvA' : ∀ (h : Heap) (K : Value → Heap → Prop), valE (some va') h K = K va' h := fun _ _ => rfl
      have hvB' : ∀ (h : Heap) (K : Value → Heap → Prop), valE (some vb') h K = K vb' h := fun _ _ => rfl
      repeat' ( simp -implicitDefEqProofs only [syms, symx, seval, c50, hvA, hvB, hvO, hlA, hlB])
      with_reducible first | refine drawN (by simp only [c50]) (z.upW _ _ (by omega)) ?_
      have hra : (ax :: xs')[(0 : Int).toNat]? = some ax := rfl
      have hrb : (ay :: ys')[(0 : Int).toNat]? = some ay := rfl
      simp -implicitDefEqProofs only [syms, symx, seval, c50, hvA, hvB, hvO]
      repeat' ((first | with_reducible_and_instances refine ixa_at (sa.mono i1) ds23 sz39 (by omega) hra (fun p hp => ?_) | with_reducible_and_instances refine ixa_at (sb.mono i1) ds23 sz39 (by omega) hrb (fun p hp => ?_) | with_reducible_and_instances refine lda hp ag39 sz39 ?_) <;> simp -implicitDefEqProofs only [syms, symx, seval, c50, hvA, hvB, hvO])
      refine ok_cmpR ax ay hax hay _ _ (fun h' x => ?_)
      (( ((with_reducible refine KOpsX_call ?_ ?_ ?_); (· exact (by (try simp only [lsz]); have := z.size; omega)); (·  exact x )) ); replace z := z.overW x (by (try simp only [lsz]); omega); (try replace ow := ow.over x); (try replace i1 := i1.over x); rw [lay_nil h'])
      simp -implicitDefEqProofs only [syms, symx, seval, c50, hvA, hvB, hvO]
      ((with_reducible refine ⟨z.grw.lay _ _, ?_⟩); (intro _ h' zz x _); (try simp only [lay_lay, List.append_nil] at x); (try replace ow := ow.over x); (try replace i1 := i1.over x); (replace z := zz); (clear zz); rw [lay_nil h'])
      simp -implicitDefEqProofs only [syms, symx, seval, c50, hvA, hvB, hvO]
      refine forkD (fun hc1 => ?_) (fun hc1 => ?_)
      · simp -implicitDefEqProofs only [syms, symx, seval, c50, hvA, hvB, hvO]
        with_reducible first | refine drawN (by simp only [c50]) (z.upW _ _ (by omega)) ?_
        simp -implicitDefEqProofs only [syms, symx, seval, c50, hvA, hvB, hvO]
        repeat' ((first | with_reducible_and_instances refine ixa_at (sa.mono i1) ds23 sz39 (by omega) hra (fun p hp => ?_) | with_reducible_and_instances refine lda hp ag39 sz39 ?_) <;> simp -implicitDefEqProofs only [syms, symx, seval, c50, hvA, hvB, hvO, fill_atom])
        have hz2 := z.size
        refine KOpsX_alloc (by omega) (by omega) ?_
        simp -implicitDefEqProofs only [syms, symx, seval, c50, w_append, sty23, hvO]
        have hfA := ow.fresh
        have hi1 := i1.size
        have hout2 : out.length ≤ 100000 := by omega
        obtain ⟨hs1, hsr1⟩ := src_row (A := A) (B := h'.size + 0) (r := Rep.atom) (c := 1) (y := ax) (by decide) (show (h'.lay [Blk.row ax.cells 39 false] (h'.size + 1)).get (h'.size + 0) = some (.row ax.cells 39 false) by rw [lay_get]; rfl) rfl
        obtain ⟨w3, h3, A3, e1, o3, c3, e4, e5⟩ := app_ow (t := 23) ds23 tab_info39 rfl (by decide) (by rw [lay_size]; omega) (ow.mono (Inc.lay _ _ _)) hs1 hsr1 (by omega) (by omega)
        rw [e1]
        simp -implicitDefEqProofs only [syms, symx, seval, c50]
        refine KOpsX_chg (A := A) (by kernel_rfl) (by rw [lay_size]; omega) (by omega) (by simpa only [lay_lay, lay_size, List.append_nil, List.length_cons, List.length_nil, Nat.zero_add] using c3) ?_
        have i3 := amInc_chg (i1.trans (Inc.lay _ _ _)) c3 hfA
        replace z := (z.upW [Blk.row ax.cells 39 false] (h'.size + 1) (by omega)).step c3 (by omega)
        clear i1 ow e1 e4 e5 c3 hs1 hsr1
        have hv3 := vSelf w3
        rw [lay_nil h3]
        repeat' (first | simp -implicitDefEqProofs only [syms, symx, seval, c50, hv3, hvA, hvB, ga, hvA'] | ((with_reducible refine ⟨z.grw.lay _ _, ?_⟩); (intro _ h' zz x _); (try simp only [lay_lay, List.append_nil] at x); (try replace o3 := o3.over x); (try replace i3 := i3.over x); (replace z := zz); (clear zz); rw [lay_nil h']))
        rw [mergeA_lt hc1] at hout
        (rw [hI1]; with_reducible refine loopN_normal (m := _) ?_ ⟨va', vb, w3, xs', ay :: ys', out ++ [ax], A3, _, rfl, z, ⟨rfl, by rw [← hout, List.append_assoc, List.cons_append, List.nil_append], sa', sb, o3, i3, fun x hx => la x (List.mem_cons_of_mem _ hx), lb, by simp only [List.length_cons, List.length_append, List.length_nil] at hsum ⊢; omega⟩, junk (by kernel_rfl)⟩; (simp only [List.length_cons]; omega))
      repeat' (first | simp -implicitDefEqProofs only [syms, symx, seval, c50, hvA, hvB, hvO] | ((with_reducible  apply forkD ) <;> intro _))
      · have hc2 : 0 < cmpD ax ay := by assumption
        with_reducible first | refine drawN (by simp only [c50]) (z.upW _ _ (by omega)) ?_
        simp -implicitDefEqProofs only [syms, symx, seval, c50, hvA, hvB, hvO]
        repeat' ((first | with_reducible_and_instances refine ixa_at (sb.mono i1) ds23 sz39 (by omega) hrb (fun p hp => ?_) | with_reducible_and_instances refine lda hp ag39 sz39 ?_) <;> simp -implicitDefEqProofs only [syms, symx, seval, c50, hvA, hvB, hvO, fill_atom])
        have hz2 := z.size
        refine KOpsX_alloc (by omega) (by omega) ?_
        simp -implicitDefEqProofs only [syms, symx, seval, c50, w_append, sty23, hvO]
        have hfA := ow.fresh
        have hi1 := i1.size
        have hout2 : out.length ≤ 100000 := by omega
        obtain ⟨hs1, hsr1⟩ := src_row (A := A) (B := h'.size + 0) (r := Rep.atom) (c := 1) (y := ay) (by decide) (show (h'.lay [Blk.row ay.cells 39 false] (h'.size + 1)).get (h'.size + 0) = some (.row ay.cells 39 false) by rw [lay_get]; rfl) rfl
        obtain ⟨w3, h3, A3, e1, o3, c3, e4, e5⟩ := app_ow (t := 23) ds23 tab_info39 rfl (by decide) (by rw [lay_size]; omega) (ow.mono (Inc.lay _ _ _)) hs1 hsr1 (by omega) (by omega)
        rw [e1]
        simp -implicitDefEqProofs only [syms, symx, seval, c50]
        refine KOpsX_chg (A := A) (by kernel_rfl) (by rw [lay_size]; omega) (by omega) (by simpa only [lay_lay, lay_size, List.append_nil, List.length_cons, List.length_nil, Nat.zero_add] using c3) ?_
        have i3 := amInc_chg (i1.trans (Inc.lay _ _ _)) c3 hfA
        replace z := (z.upW [Blk.row ay.cells 39 false] (h'.size + 1) (by omega)).step c3 (by omega)
        clear i1 ow e1 e4 e5 c3 hs1 hsr1
        have hv3 := vSelf w3
        rw [lay_nil h3]
        repeat' (first | simp -implicitDefEqProofs only [syms, symx, seval, c50, hv3, hvA, hvB, gb, hvB'] | ((with_reducible refine ⟨z.grw.lay _ _, ?_⟩); (intro _ h' zz x _); (try simp only [lay_lay, List.append_nil] at x); (try replace o3 := o3.over x); (try replace i3 := i3.over x); (replace z := zz); (clear zz); rw [lay_nil h']))
        rw [mergeA_gt hc2] at hout
        (rw [hI1]; with_reducible refine loopN_normal (m := _) ?_ ⟨va, vb', w3, ax :: xs', ys', out ++ [ay], A3, _, rfl, z, ⟨rfl, by rw [← hout, List.append_assoc, List.cons_append, List.nil_append], sa, sb', o3, i3, la, fun x hx => lb x (List.mem_cons_of_mem _ hx), by simp only [List.length_cons, List.length_append, List.length_nil] at hsum ⊢; omega⟩, junk (by kernel_rfl)⟩; (simp only [List.length_cons]; omega))
      · have hc0 : cmpD ax ay = 0 := by omega
        rw [gb]
        repeat' ( simp -implicitDefEqProofs only [syms, symx, seval, c50, hvB'])
        rw [mergeA_eq hc0] at hout
        (rw [hI1]; with_reducible refine loopN_normal (m := _) ?_ ⟨va, vb', wo, ax :: xs', ys', out, A, _, rfl, z, ⟨rfl, hout, sa, sb', ow, i1, la, fun x hx => lb x (List.mem_cons_of_mem _ hx), by simp only [List.length_cons] at hsum ⊢; omega⟩, junk (by kernel_rfl)⟩; (simp only [List.length_cons]; omega))
theorem fillT_atom (b : AtomD) (z0 z1 z2 z3 z4 z5 z6 z7 z8 z9 z10 : Value) : fillA (fun i => some (i * 11, 11)) [z0, z1, z2, z3, z4, z5, z6, z7, z8, z9, z10] [(0, b.val)] = some b.cells := rfl
theorem ok_rightT (l : List AtomD) (v : Value) (h : Heap) (hl : Sl Rep.atom h v l) (hs : l.length ≤ 1000) (hlt : ∀ x ∈ l, x.light = true) (hf : ∀ x ∈ l, FactX x) (K : Value → Heap → Prop)
    (hk : ∀ h' w, Ext h h' → Sl Rep.atom h' w (sortA l) → K w h') : Ok Try.prog tab ov 133 [v] h K := by
  rw [lay_nil h]
  have z := Ext.refl h
  have hva := vSelf v
  have hlv := fun (hh : Heap) => hl.lenA ds23 hh
  refine Ok.into rfl tab_fn133 (bodyF N133) rfl (m := 24) rfl ?_
  repeat' ( simp -implicitDefEqProofs only [syms, symx, seval, c133])
  have hz0 := z.size
  obtain ⟨I1, hI1⟩ : ∃ I : Nat → Env → Heap → Prop, I = (fun n e h' => ∃ (i : Nat) (wv : Value) (A : Nat) (h1 : Heap), h' = h1.lay [] h1.low ∧ Ext h h1 ∧ (n = l.length - i ∧ i ≤ l.length ∧ Ow Rep.atom h h1 39 A wv (l.take i)) ∧ ∃ J : Nat → Value, e = (v :: jr J 1 2 (wv :: .int .i64 i :: jr J 5 20 ([])))) := ⟨_, rfl⟩
  refine W_loopN I1 _ (by rw [hI1]; exact ⟨0, .slice none 0 0, h.size, _, rfl, z, ⟨rfl, by omega, Ow.nil (by omega)⟩, junk (by kernel_rfl)⟩) ?_
  intro n e h' hin
  rw [hI1] at hin
  obtain ⟨i, wv, A, h1', rfl, z, hinv, J, rfl⟩ := hin
  obtain ⟨rfl, hi, ow⟩ := hinv
  have hw : IntKind.i64.wrap ((i : Int) + 1) = ((i + 1 : Nat) : Int) := by rw [wrap_i64 (by omega) (by omega)]; omega
  have hvw := vSelf wv
  have hz := z.size
  simp -implicitDefEqProofs only [syms, symx, seval, c133, hva, hlv]
  refine forkD (fun hlt2 => ?_) (fun hlt2 => ?_)
  rotate_left
  · rw [List.take_of_length_le (by omega)] at ow
    repeat' ( simp -implicitDefEqProofs only [syms, symx, seval, c133, hvw])
    refine ok_sortedR l.length l wv _ (Nat.le_refl _) ((ow.sl (by decide)).lay _ _) (by omega) hlt _ (fun h' w x o1 => ?_)
    replace o1 := (o1.own (by have := sortA_length l; omega)).sl
    ((skip); replace z := z.overW x (by (try simp only [lsz]); omega); (try replace ow := ow.over x); rw [lay_nil h'])
    have hvw1 := vSelf w
    repeat' ( simp -implicitDefEqProofs only [syms, symx, seval, c133, hvw1])
    exact hk _ _ (z.upW _ _ (by omega)) (o1.lay _ _)
  obtain ⟨r, hr, hr'⟩ := amElem (l := l) (i := i) (by omega)
  have hmem := List.mem_of_getElem? hr'
  have htk : l.take (i + 1) = l.take i ++ [r] := by rw [List.take_add_one, hr']; rfl
  repeat' (first | simp -implicitDefEqProofs only [syms, symx, seval, c133, hva] | with_reducible_and_instances refine ixa_at (hl.mono z.inc) ds23 sz39 (by omega) hr (fun p hp => ?_) | with_reducible_and_instances refine lda hp ag39 sz39 ?_)
  refine ok_factX r _ _ (fun hv h' x => ?_) (fun hv h' x => absurd (hf r hmem) hv)
  ((skip); replace z := z.overW x (by (try simp only [lsz]); omega); (try replace ow := ow.over x); rw [lay_nil h'])
  clear hp
  repeat' (first | simp -implicitDefEqProofs only [syms, symx, seval, c133, hva, hvw] | with_reducible_and_instances refine ixa_at (hl.mono z.inc) ds23 sz39 (by omega) hr (fun p hp => ?_) | with_reducible_and_instances refine lda hp ag39 sz39 ?_)
  simp -implicitDefEqProofs only [syms, symx, seval, c133, w_append, sty23, fillT_atom]
  refine ap_one (i := 0) (cs := r.cells) (x := r) ds23 tab_info39 rfl (by decide) (by rfl) z.size ow rfl (by rw [List.length_take]; omega) (by rw [List.length_take]; omega) (fun w3 h3 A3 ow3 cg3 hA3 => ?_)
  have hfA := ow.fresh
  replace z := (z.upW _ _ (by omega)).step cg3 (by omega)
  rw [lay_nil h3]
  have hvw3 := vSelf w3
  repeat' ( simp -implicitDefEqProofs only [syms, symx, seval, c133, hvw3])
  rw [hw]
  rw [← htk] at ow3
  clear ow
  (rw [hI1]; with_reducible refine loopN_normal (m := _) ?_ ⟨i + 1, w3, A3, _, rfl, z, ⟨rfl, by omega, ow3⟩, junk (by kernel_rfl)⟩; omega)
theorem cut_clA (a : AtomD) (u : Value) : cut (a.cells ++ [u]) 0 11 = some a.cells := rfl
theorem cut_clB (a : AtomD) (u : Value) : cut (a.cells ++ [u]) 0 12 = some (a.cells ++ [u]) := rfl
theorem cell_clA (a : AtomD) (u : Value) : (a.cells ++ [u])[11]? = some u := rfl
theorem ok_headsT (c : ClauseD) (cv : Value) (hav : List AtomD) (hv : Value) (h : Heap) (hbl : c.body.length ≤ 100) (hhl : hav.length ≤ 1000) : ∀ (k i : Nat) (l : List BindD) (lv : Value) (out : List AtomD) (wv : Value) (A : Nat) (hs : Heap), i + k = c.body.length → Ext h hs →
    Sl Rep.atom (kill A hs) cv c.body → Sl Rep.bind (kill A hs) lv l → Sl Rep.atom (kill A hs) hv hav → Ow Rep.atom h hs 39 A wv out → A < hs.size → l.length + 4 * k ≤ 800 → out.length + hav.length ^ k ≤ 1000000 → ∀ (K : Value → Heap → Prop),
    (∀ h' w' A', Ext h h' → Ow Rep.atom h h' 39 A' w' (out ++ headsD c.head hav (c.body.drop i) l) → Kin (kill A hs) A' h' → K w' h') → Ok Try.prog tab ov 134 [.agg ⟨c.head.cells ++ [cv]⟩, .int .i64 i, lv, hv, wv] hs K
  | k, i, l, lv, out, wv, A, hs, hik, z, sc, sl, sh, ow, hA, hll, hol, K, hk => by
    rw [lay_nil hs]
    have hfA := ow.fresh
    have kn : Kin (kill A hs) A hs := Kin.start hA
    have hvc := vSelf cv
    have hvl := vSelf lv
    have hvh := vSelf hv
    have hvw := vSelf wv
    have hlc := fun (hh : Heap) => sc.lenA ds23 hh
    have hlh := fun (hh : Heap) => sh.lenA ds23 hh
    refine Ok.into rfl tab_fn134 (bodyF N134) rfl (m := 50) rfl ?_
    simp -implicitDefEqProofs only [syms, symx, seval, c134, cell_clA, hvc, hlc]
    refine forkB (fun heq => ?_) (fun hne => ?_)
    · have hk0 : k = 0 := by omega
      subst hk0
      rw [List.drop_of_length_le (by omega)] at hk
      repeat' ( simp -implicitDefEqProofs only [syms, symx, seval, c134, ↓cut_clA, agg_atom, valE_atom, hvl, hvw])
      refine ok_applyT l lv c.head _ ((kn.mono_sl sl).lay _ _) (by omega) _ (fun h' x => ?_)
      (( skip); replace z := z.overW x (by (try simp only [lsz]); omega); (try replace ow := ow.over x); (try replace kn := kn.over x); rw [lay_nil h'])
      repeat' ( simp -implicitDefEqProofs only [syms, symx, seval, c134])
      simp -implicitDefEqProofs only [syms, symx, seval, c134, w_append, sty23, fillT_atom]
      have hpw : hav.length ^ 0 = 1 := rfl
      refine ap_one (i := 0) (cs := (applyD l c.head).cells) (x := applyD l c.head) ds23 tab_info39 rfl (by decide) (by rfl) z.size ow rfl (by omega) (by omega) (fun w3 h3 A3 ow3 cg3 hA3 => ?_)
      have k3 := kn.step cg3 hA3 (ow3.ltN (by simp))
      replace z := (z.upW _ _ (by omega)).step cg3 (by omega)
      rw [lay_nil h3]
      have hvw3 := vSelf w3
      repeat' ( simp -implicitDefEqProofs only [syms, symx, seval, c134, hvw3])
      exact hk _ _ _ (z.upW _ _ (by omega)) (ow3.mono (Inc.lay _ _ _)) (k3.lay _ _)
    match k, hik, hll, hol with
    | 0, hik, _, _ => exact absurd (show (i : Int) = c.body.length by omega) hne
    | k + 1, hik, hll, hol =>
      obtain ⟨pa, hpa, hpa'⟩ := amElem (l := c.body) (i := i) (by omega)
      have hdr : c.body.drop i = pa :: c.body.drop (i + 1) := by
        obtain ⟨hh, he⟩ := List.getElem?_eq_some_iff.1 hpa'
        rw [← he]
        exact List.drop_eq_getElem_cons hh
      have hpl : (c.body.drop (i + 1)).length = k := by rw [List.length_drop]; omega
      rw [hdr, headsD_cons] at hk
      obtain ⟨f, hf⟩ : ∃ f, f = headsAt c.head hav pa (c.body.drop (i + 1)) l := ⟨_, rfl⟩
      rw [← hf] at hk
      have hfl : ∀ j, ((hav.take j).flatMap f).length ≤ j * hav.length ^ k := fun j => by rw [hf, ← hpl]; exact heads_front j
      have hpow : hav.length ^ (k + 1) = hav.length * hav.length ^ k := by rw [Nat.pow_succ, Nat.mul_comm]
      have hle : ∀ j, j < hav.length → (j + 1) * hav.length ^ k ≤ hav.length ^ (k + 1) := fun j hj => by rw [hpow]; exact Nat.mul_le_mul_right _ hj
      have hw1 : IntKind.i64.wrap ((i : Int) + 1) = ((i + 1 : Nat) : Int) := by rw [wrap_i64 (by omega) (by omega)]; omega
      repeat' ( simp -implicitDefEqProofs only [syms, symx, seval, c134])
      refine W_fold (fun h' x hq => ?_)
      have q0 := hq 0 _ rfl
      clear hq
      (replace z := z.overW x (by (try simp only [lsz]); omega); (try replace ow := ow.over x); (try replace kn := kn.over x); rw [lay_nil h'])
      obtain ⟨A0, hA0⟩ : ∃ A0, A0 = hs.size + 0 := ⟨_, rfl⟩
      rw [← hA0] at q0
      rw [← hA0]
      have hA0A : A0 ≠ A := by omega
      obtain ⟨I1, hI1⟩ : ∃ I : Nat → Env → Heap → Prop, I = (fun n e h' => ∃ (j : Nat) (w : Value) (A1 : Nat) (h1 : Heap), h' = h1.lay [] h1.low ∧ Ext h h1 ∧ (n = hav.length - j ∧ j ≤ hav.length ∧ Ow Rep.atom h h1 39 A1 w (out ++ (hav.take j).flatMap f) ∧ Kin (kill A hs) A1 h1 ∧ A0 ≠ A1 ∧ Holds h1 A0 (.row (c.head.cells ++ [cv]) 47 false)) ∧ ∃ J : Nat → Value, e = (J 0 :: .int .i64 i :: lv :: hv :: w :: .pointer (some ⟨A0, 0, none⟩) :: jr J 6 5 (.int .i64 j :: jr J 12 43 ([])))) := ⟨_, rfl⟩
      refine W_loopN I1 _ (by rw [hI1]; exact ⟨0, wv, A, _, rfl, z, ⟨rfl, by omega, by simpa using ow, kn, hA0A, q0⟩, junk (by kernel_rfl)⟩) ?_
      intro n e h' hin
      rw [hI1] at hin
      obtain ⟨j, w, A1, h1', rfl, z, hinv, J, rfl⟩ := hin
      clear q0 ow kn hvw
      obtain ⟨rfl, hj, ow, kn, hne1, q0⟩ := hinv
      have hwj : IntKind.i64.wrap ((j : Int) + 1) = ((j + 1 : Nat) : Int) := by rw [wrap_i64 (by omega) (by omega)]; omega
      have hvw := vSelf w
      simp -implicitDefEqProofs only [syms, symx, seval, c134, hvh, hlh]
      refine forkD (fun hlt2 => ?_) (fun hlt2 => ?_)
      rotate_left
      · rw [List.take_of_length_le (by omega)] at ow
        repeat' ( simp -implicitDefEqProofs only [syms, symx, seval, c134, hvw])
        exact hk _ _ _ (z.upW _ _ (by omega)) (ow.mono (Inc.lay _ _ _)) (kn.lay _ _)
      obtain ⟨r, hr, hr'⟩ := amElem (l := hav) (i := j) (by omega)
      have htk : (hav.take (j + 1)).flatMap f = (hav.take j).flatMap f ++ f r := by rw [List.take_add_one, hr', List.flatMap_append]; simp
      have hz := z.size
      have hfl1 := hfl j
      have hle1 := hle j (by omega)
      have hsm : (j + 1) * hav.length ^ k = j * hav.length ^ k + hav.length ^ k := Nat.succ_mul _ _
      have hz1 := kn.lt
      repeat' (first | simp -implicitDefEqProofs only [syms, symx, seval, c134, hvl, hvh, hvc, q0.lay, cell_clA] | with_reducible refine drawN (by simp only [c134]) (z.upW _ _ (by omega)) ?_ | with_reducible_and_instances refine ixa_at (kn.mono_sl sc) ds23 sz39 (by omega) hpa (fun p hp => ?_) | with_reducible_and_instances refine ixa_at (kn.mono_sl sh) ds23 sz39 (by omega) hr (fun p hp => ?_) | with_reducible_and_instances refine lda hp ag39 sz39 ?_)
      refine ok_extT l lv pa r _ ((kn.mono_sl sl).lay _ _) (by omega) _ (fun h' w2 bb x hn2 hs2 => ?_)
      have hzc : (h1'.lay [] h1'.low).size = h1'.size := lay_size _ _ _
      (( ((with_reducible refine KOpsX_call ?_ ?_ ?_); (· exact (by (try simp only [lsz]); have := z.size; omega)); (·  exact x )) ); replace z := z.overW x (by (try simp only [lsz]); omega); (try replace ow := ow.over x); (try replace kn := kn.over x); (try replace q0 := q0.over x); rw [lay_nil h'])
      have hva2 := vSelf w2
      cases hx2 : extD l pa r with
      | none =>
        obtain rfl := hn2 hx2
        have hfr : f r = [] := by rw [hf]; unfold headsAt; rw [hx2]
        rw [hfr, List.append_nil] at htk
        repeat' (first | simp -implicitDefEqProofs only [syms, symx, seval, c134, hva2] | ((with_reducible refine ⟨z.grw.lay _ _, ?_⟩); (intro _ h' zz x _); (try simp only [lay_lay, List.append_nil] at x); (try replace ow := ow.over x); (try replace kn := kn.over x); (try replace q0 := q0.over x); (replace z := zz); (clear zz); rw [lay_nil h']))
        rw [hwj]
        (rw [hI1]; with_reducible refine loopN_normal (m := _) ?_ ⟨j + 1, w, A1, _, rfl, z, ⟨rfl, by omega, by rw [htk]; exact ow, kn, hne1, q0⟩, junk (by kernel_rfl)⟩; omega)
      | some m =>
        obtain ⟨rfl, A2, hm⟩ := hs2 m hx2
        have hfr : f r = headsD c.head hav (c.body.drop (i + 1)) m := by rw [hf]; unfold headsAt; rw [hx2]
        have hml := extD_length hx2
        repeat' (first | simp -implicitDefEqProofs only [syms, symx, seval, c134, hva2, hvh, hvw, q0.lay, ↓cut_clB] | ((with_reducible refine ⟨z.grw.lay _ _, ?_⟩); (intro _ h' zz x _); (try simp only [lay_lay, List.append_nil] at x); (try replace ow := ow.over x); (try replace kn := kn.over x); (try replace q0 := q0.over x); (try replace hm := hm.over x); (replace z := zz); (clear zz); rw [lay_nil h']))
        rw [hw1]
        have hlk : (out ++ (hav.take j).flatMap f).length = out.length + ((hav.take j).flatMap f).length := List.length_append
        refine ok_headsT c cv hav hv h hbl hhl k (i + 1) m w2 _ w A1 _ (by omega) (z.upW _ _ (by omega)) (sc.mono (kn.lay _ _).inc) (((hm.mono (Inc.lay _ _ _)).kill (C := A1) (fun _ _ _ _ h => h) (by simp only [lay_size, List.length_nil]; omega)).sl (by decide)) (sh.mono (kn.lay _ _).inc) (ow.mono (Inc.lay _ _ _)) (kn.lay _ _).lt (by omega) (by omega) _ (fun h3 w3 A3 x ow3 k3 => ?_)
        rw [← hfr, List.append_assoc, ← htk] at ow3
        obtain ⟨q3, hne3⟩ := k3.keep q0 hne1
        replace kn := kn.trans k3
        replace z := x
        have hvw3 := vSelf w3
        rw [lay_nil h3]
        clear q0 ow
        repeat' ( simp -implicitDefEqProofs only [syms, symx, seval, c134, hvw3])
        rw [hwj]
        (rw [hI1]; with_reducible refine loopN_normal (m := _) ?_ ⟨j + 1, w3, A3, _, rfl, z, ⟨rfl, by omega, ow3, kn, hne3, q3⟩, junk (by kernel_rfl)⟩; omega)
theorem pow_small {n k : Nat} (hn : n ≤ 24) (hk : k ≤ 3) : n ^ k ≤ 13824 := by
  have h4 : k = 0 ∨ k = 1 ∨ k = 2 ∨ k = 3 := by omega
  rcases h4 with e | e | e | e <;> rw [e]
  · rw [Nat.pow_zero]; omega
  · rw [Nat.pow_one]; omega
  · exact Nat.le_trans (Nat.pow_le_pow_left hn 2) (by decide)
  · exact Nat.le_trans (Nat.pow_le_pow_left hn 3) (by decide)
theorem ok_roundT (cl : List ClauseD) (facts hav : List AtomD) (v u w : Value) (h : Heap) (hl : Sl Rep.clause h v cl) (hf : Sl Rep.atom h u facts) (hh : Sl Rep.atom h w hav) (hn : cl.length ≤ 6) (hcb : ∀ c ∈ cl, c.body.length ≤ 3) (hfn : facts.length ≤ 1000) (hhn : hav.length ≤ 24) (hm : MayX cl facts) (hfx : ∀ a ∈ hav, FactX a) (hasc : AscD hav)
    (K : Value → Heap → Prop) (hk : ∀ h' w', Ext h h' → Sl Rep.atom h' w' (roundD cl facts hav) → K w' h') : Ok Try.prog tab ov 79 [v, u, w] h K := by
  rw [lay_nil h]
  have z := Ext.refl h
  have hva := vSelf v
  have hvu := vSelf u
  have hvw := vSelf w
  have hlv := fun (hh : Heap) => hl.lenA ds22 hh
  refine Ok.into rfl tab_fn79 (bodyF N79) rfl (m := 30) rfl ?_
  repeat' ( simp -implicitDefEqProofs only [syms, symx, seval, c79, hva, hvu])
  refine ok_mayX cl facts v u _ (hl.lay _ _) (hf.lay _ _) (by omega) (fun c hc => by have := hcb c hc; omega) (by omega) _ (fun hm2 h' x => ?_) (fun hm2 h' x => absurd hm hm2)
  ((skip); replace z := z.overW x (by (try simp only [lsz]); omega); rw [lay_nil h'])
  repeat' (first | simp -implicitDefEqProofs only [syms, symx, seval, c79, hvw] | ((with_reducible_and_instances apply unop_not); (· rfl)))
  refine ok_rightT hav w _ ((hh.mono z.inc).lay _ _) (by omega) (fun x hx => (hfx x hx).valid.light) hfx _ (fun h' w1 x s1 => ?_)
  rw [sortA_asc hasc] at s1
  ((skip); replace z := z.overW x (by (try simp only [lsz]); omega); rw [lay_nil h'])
  have hvw1 := vSelf w1
  repeat' ( simp -implicitDefEqProofs only [syms, symx, seval, c79, hvw1, hvu])
  simp -implicitDefEqProofs only [syms, symx, seval, c79, w_append, sty23]
  have hz0 := z.size
  obtain ⟨B, hB⟩ : ∃ B, B = h'.size + 0 := ⟨_, rfl⟩
  have f : Ow Rep.atom h (h'.lay [.row [] 39 false] h'.low) 39 B (.slice (some ⟨h'.size + 0, 0, none⟩) 0 0) [] :=
    .inl ⟨by omega, rfl, .inr ⟨h'.size + 0, 0, rfl, by omega, by rw [lay_size]; simp, [], 39, false, by rw [lay_get]; rfl⟩⟩
  obtain ⟨news, hs2, hsr⟩ := src_sl (A := B) (r := Rep.atom) (by decide) ((hf.mono z.inc).lay [.row [] 39 false] h'.low) (fun cs y hr => hr)
  obtain ⟨wv, h2, A', e1, e2, e3, e4, e5⟩ := app_ow (t := 23) ds23 tab_info39 rfl (by decide) (by rw [lay_size]; omega) f hs2 hsr (by simp only [List.length_nil]; omega) (by simp only [List.length_nil]; omega)
  rw [e1]
  rw [List.nil_append] at e2
  have hHs : (h'.lay [Blk.row [] 39 false] h'.low).size = h'.size + 1 := by rw [lay_size]; rfl
  have hz2 := e3.size
  rw [hHs] at hz2 e4
  obtain ⟨A1, hA1, hA2, ow⟩ : ∃ A1, A1 < h2.size ∧ h'.size ≤ A1 ∧ Ow Rep.atom h h2 39 A1 wv facts := by
    by_cases hfe : facts = []
    · subst hfe
      exact ⟨B, by omega, by omega, e2.re (by omega)⟩
    · exact ⟨A', e2.ltN hfe, by omega, e2⟩
  have i1 : Inc h' (kill A1 h2) := inc_fresh (amInc_chg (Inc.lay _ _ _) e3 (by omega)) hA2
  have i0 : Inc h (kill A1 h2) := z.inc.trans i1
  replace s1 := s1.mono i1
  have lC := hl.mono i0
  obtain ⟨B0, hB0⟩ : ∃ B0, B0 = kill A1 h2 := ⟨_, rfl⟩
  have kn : Kin B0 A1 h2 := by rw [hB0]; exact Kin.start hA1
  rw [← hB0] at s1 lC
  clear i1 i0 f e2 e4
  replace z := (z.upW _ _ (by omega)).step e3 (by omega)
  rw [lay_nil h2]
  have hvo := vSelf wv
  repeat' ( simp -implicitDefEqProofs only [syms, symx, seval, c79, hvo])
  obtain ⟨I1, hI1⟩ : ∃ I : Nat → Env → Heap → Prop, I = (fun n e h' => ∃ (j : Nat) (wo : Value) (A : Nat) (h1 : Heap), h' = h1.lay [] h1.low ∧ Ext h h1 ∧ (n = cl.length - j ∧ j ≤ cl.length ∧ Ow Rep.atom h h1 39 A wo (facts ++ (cl.take j).flatMap fun c => headsD c.head hav c.body []) ∧ Kin B0 A h1) ∧ ∃ J : Nat → Value, e = (v :: J 1 :: w1 :: jr J 3 4 (wo :: .int .i64 j :: jr J 9 24 ([])))) := ⟨_, rfl⟩
  refine W_loopN I1 _ (by rw [hI1]; exact ⟨0, wv, A1, _, rfl, z, ⟨rfl, by omega, by simpa using ow, kn⟩, junk (by kernel_rfl)⟩) ?_
  intro n e h' hin
  rw [hI1] at hin
  obtain ⟨j, wo, A, h1', rfl, z, hinv, J, rfl⟩ := hin
  clear ow kn hvo
  obtain ⟨rfl, hj, ow, kn⟩ := hinv
  have hwj : IntKind.i64.wrap ((j : Int) + 1) = ((j + 1 : Nat) : Int) := by rw [wrap_i64 (by omega) (by omega)]; omega
  have hvo := vSelf wo
  have holn := out_length (facts := facts) hcb hn hhn j
  simp -implicitDefEqProofs only [syms, symx, seval, c79, hva, hlv]
  refine forkD (fun hlt2 => ?_) (fun hlt2 => ?_)
  rotate_left
  · rw [List.take_of_length_le (by omega)] at ow holn
    repeat' ( simp -implicitDefEqProofs only [syms, symx, seval, c79, hvo])
    refine ok_sortedR _ (outD cl facts hav) wo _ (Nat.le_refl _) ((ow.sl (by decide)).lay _ _) (by unfold outD; omega) (fun a ha => (out_fact hm hfx a ha).valid.light) _ (fun h' w9 x o1 => ?_)
    replace o1 := (o1.own (by have := sortA_length (outD cl facts hav); unfold outD at this ⊢; omega)).sl
    ((skip); replace z := z.overW x (by (try simp only [lsz]); omega); (try replace ow := ow.over x); (try replace kn := kn.over x); rw [lay_nil h'])
    have hvw9 := vSelf w9
    repeat' ( simp -implicitDefEqProofs only [syms, symx, seval, c79, hvw9])
    exact hk _ _ (z.upW _ _ (by omega)) (o1.lay _ _)
  obtain ⟨c, hc, hc'⟩ := amElem (l := cl) (i := j) (by omega)
  have hcm := List.mem_of_getElem? hc'
  have hcb3 := hcb c hcm
  have hpw := pow_small hhn hcb3
  have htk : (cl.take (j + 1)).flatMap (fun c => headsD c.head hav c.body []) = (cl.take j).flatMap (fun c => headsD c.head hav c.body []) ++ headsD c.head hav c.body [] := by rw [List.take_add_one, hc', List.flatMap_append]; simp
  have hz1 := kn.lt
  repeat' (first | simp -implicitDefEqProofs only [syms, symx, seval, c79, hva, hvw1, hvo] | with_reducible_and_instances refine ixc_base lC kn.all ds22 sz47 (by omega) hc (fun p bd hbd hp => ?_) | with_reducible_and_instances refine ldc hp ag47 sz47 ?_)
  have hnil : Sl Rep.bind (kill A (h1'.lay [] h1'.low)) (.slice none 0 0) [] := Sl.nil
  refine ok_headsT c bd hav w1 h (by omega) (by omega) c.body.length 0 [] _ _ wo A _ (by omega) (z.upW _ _ (by omega)) (Sl.mono (by assumption) (kn.lay _ _).inc) hnil (s1.mono (kn.lay _ _).inc) (ow.mono (Inc.lay _ _ _)) (kn.lay _ _).lt (by simp only [List.length_nil]; omega) (by omega) _ (fun h3 w3 A3 x ow3 k3 => ?_)
  rw [List.drop_zero, List.append_assoc, ← htk] at ow3
  replace kn := kn.trans k3
  replace z := x
  have hvw3 := vSelf w3
  rw [lay_nil h3]
  clear ow
  repeat' ( simp -implicitDefEqProofs only [syms, symx, seval, c79, hvw3])
  rw [hwj]
  (rw [hI1]; with_reducible refine loopN_normal (m := _) ?_ ⟨j + 1, w3, A3, _, rfl, z, ⟨rfl, by omega, ow3, kn⟩, junk (by kernel_rfl)⟩; omega)
theorem ok_lfpT (cl : List ClauseD) (facts : List AtomD) (v u : Value) (h : Heap) (hl : Sl Rep.clause h v cl) (hf : Sl Rep.atom h u facts) (hn : cl.length ≤ 6) (hcb : ∀ c ∈ cl, c.body.length ≤ 3) (hfn : facts.length ≤ 1000) (hm : MayX cl facts)
    (K : Value → Heap → Prop) (h1k : ∀ h' w (k : Nat), Ext h h' → Sl Rep.atom h' w (iterD cl facts k) → (iterD cl facts k).length ≤ 24 → iterD cl facts (k + 1) = iterD cl facts k → K (.tuple #[w, .int .i64 k, .int .i64 0]) h') (h2k : ∀ h', Ext h h' → K (.tuple #[.slice none 0 0, .int .i64 0, .int .i64 14]) h') : Ok Try.prog tab ov 18 [v, u, .int .i64 24] h K := by
  rw [lay_nil h]
  have z := Ext.refl h
  have hva := vSelf v
  have hvu := vSelf u
  refine Ok.into rfl tab_fn18 (bodyF N18) rfl (m := 35) rfl ?_
  repeat' ( simp -implicitDefEqProofs only [syms, symx, seval, c18, hva, hvu])
  refine ok_mayX cl facts v u _ (hl.lay _ _) (hf.lay _ _) (by omega) (fun c hc => by have := hcb c hc; omega) (by omega) _ (fun hm2 h' x => ?_) (fun hm2 h' x => absurd hm hm2)
  ((skip); replace z := z.overW x (by (try simp only [lsz]); omega); rw [lay_nil h'])
  repeat' (first | simp -implicitDefEqProofs only [syms, symx, seval, c18, Bool.not_true] | ((with_reducible_and_instances apply unop_not); (· rfl)))
  obtain ⟨I1, hI1⟩ : ∃ I : Nat → Env → Heap → Prop, I = (fun n e h' => ∃ (k : Nat) (w : Value) (h1 : Heap), h' = h1.lay [] h1.low ∧ Ext h h1 ∧ (n = 25 - (iterD cl facts k).length ∧ k ≤ (iterD cl facts k).length ∧ (iterD cl facts k).length ≤ 24 ∧ Sl Rep.atom h1 w (iterD cl facts k)) ∧ ∃ J : Nat → Value, e = (v :: u :: .int .i64 24 :: jr J 3 6 (w :: .int .i64 k :: jr J 11 27 ([])))) := ⟨_, rfl⟩
  refine W_loopN I1 _ (by rw [hI1]; exact ⟨0, .slice none 0 0, _, rfl, z, ⟨rfl, by simp [iterD], by simp [iterD], Sl.nil⟩, junk (by kernel_rfl)⟩) ?_
  intro n e h' hin
  rw [hI1] at hin
  obtain ⟨k, w, h1', rfl, z, hinv, J, rfl⟩ := hin
  obtain ⟨rfl, hkl, hk4, s⟩ := hinv
  have hwk : IntKind.i64.wrap ((k : Int) + 1) = ((k + 1 : Nat) : Int) := by rw [wrap_i64 (by omega) (by omega)]; omega
  have hvw := vSelf w
  repeat' ( simp -implicitDefEqProofs only [syms, symx, seval, c18, hva, hvu, hvw])
  refine ok_roundT cl facts _ v u w _ ((hl.mono z.inc).lay _ _) ((hf.mono z.inc).lay _ _) (s.lay _ _) hn hcb hfn hk4 hm (iter_fact hm k) (iter_asc cl facts k) _ (fun h' w2 x s2 => ?_)
  replace s2 : Sl Rep.atom h' w2 (iterD cl facts (k + 1)) := s2
  obtain ⟨g1, g2⟩ := asc_len (iter_asc cl facts k) (iter_asc cl facts (k + 1)) (iter_up hm k)
  ((skip); replace z := z.overW x (by (try simp only [lsz]); omega); (try replace s := s.over x); rw [lay_nil h'])
  have hvw2 := vSelf w2
  have hl1 := fun (hh : Heap) => s.lenA ds23 hh
  have hl2 := fun (hh : Heap) => s2.lenA ds23 hh
  simp -implicitDefEqProofs only [syms, symx, seval, c18, hvw2, hl2]
  refine forkD (fun hgt => ?_) (fun hgt => ?_)
  · repeat' ( simp -implicitDefEqProofs only [syms, symx, seval, c18])
    exact h2k _ (z.upW _ _ (by omega))
  simp -implicitDefEqProofs only [syms, symx, seval, c18, hvw, hvw2, hl1, hl2]
  refine forkB (fun heq => ?_) (fun hne => ?_)
  · repeat' ( simp -implicitDefEqProofs only [syms, symx, seval, c18, hvw])
    exact h1k _ _ k (z.upW _ _ (by omega)) (s.lay _ _) hk4 (g2 (by omega)).symm
  · repeat' ( simp -implicitDefEqProofs only [syms, symx, seval, c18, hvw2])
    rw [hwk]
    (rw [hI1]; with_reducible refine loopN_normal (m := _) ?_ ⟨k + 1, w2, _, rfl, z, ⟨rfl, by omega, by omega, s2⟩, junk (by kernel_rfl)⟩; omega)
end Go.Proofs.Ytompindebndddaa
