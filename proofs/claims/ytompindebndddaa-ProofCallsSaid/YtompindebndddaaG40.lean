/- Walks: sorting in place: Am.one block Written out by fill2.py. No condition. -/
import Derived.Test.YtompindebndddaaG39
import Derived.Test.YtompindebndddaaG18
namespace Go.Proofs.Ytompindebndddaa
open Go.Am
set_option linter.unusedSimpArgs false
set_option linter.unusedVariables false
set_option maxRecDepth 100000
set_option maxHeartbeats 0
theorem ok_insertion (l : List AtomD) (A c a b : Nat) (h hs : Heap) (z : Ext h hs) (hA : h.size ≤ A) (q : Holds hs A (.row (rowA l) 39 false)) (hab : a ≤ b) (hb : b ≤ l.length) (hn : l.length ≤ 1000) (hlt : ∀ x ∈ l, x.light = true) (K : Value → Heap → Prop)
    (hk : ∀ h' l', Ext h h' → Holds h' A (.row (rowA l') 39 false) → l'.Perm l → Stab l l' → SortedR l' a b → SameOut l l' a b → K undef h') : Ok Try.prog tab ov 178 [.slice (some ⟨A, 0, none⟩) l.length c, .int .i64 a, .int .i64 b, .func (.func 43) ⟨[]⟩ ⟨[]⟩] hs K := by
  rw [lay_nil hs]
  have hw0 : IntKind.i64.wrap ((a : Int) + 1) = ((a + 1 : Nat) : Int) := by rw [wrap_i64 (by omega) (by omega)]; omega
  refine Ok.into rfl tab_fn178 (bodyF N178) rfl (m := 49) rfl ?_
  simp -implicitDefEqProofs only [syms, symx, seval, c178]
  rw [hw0]
  obtain ⟨I1, hI1⟩ : ∃ I : Nat → Env → Heap → Prop, I = (fun n e h' => ∃ (i : Nat) (l1 : List AtomD) (h1 : Heap), h' = h1.lay [] h1.low ∧ Ext h h1 ∧ (n = b - i ∧ a < i ∧ (i ≤ b ∨ (i = a + 1 ∧ l1 = l)) ∧ l1.Perm l ∧ Stab l l1 ∧ SortedR l1 a i ∧ SameOut l l1 a i ∧ Holds h1 A (.row (rowA l1) 39 false)) ∧ ∃ J : Nat → Value, e = (.slice (some ⟨A, 0, none⟩) l.length c :: .int .i64 a :: .int .i64 b :: .func (.func 43) ⟨[]⟩ ⟨[]⟩ :: jr J 4 4 (.int .i64 i :: jr J 9 44 ([])))) := ⟨_, rfl⟩
  refine W_loopN I1 _ (by rw [hI1]; exact ⟨a + 1, l, _, rfl, z, ⟨rfl, by omega, .inr ⟨rfl, rfl⟩, List.Perm.refl _, Stab.refl _, fun k g1 g2 => by omega, fun k _ => rfl, q⟩, junk (by kernel_rfl)⟩) ?_
  intro n e h' hin
  rw [hI1] at hin
  obtain ⟨i, l1, h1', rfl, z, hinv, J, rfl⟩ := hin
  clear q
  obtain ⟨rfl, hai, hib, hp1, hst1, hso1, hsa1, q⟩ := hinv
  have hw : IntKind.i64.wrap ((i : Int) + 1) = ((i + 1 : Nat) : Int) := by rw [wrap_i64 (by omega) (by omega)]; omega
  simp -implicitDefEqProofs only [syms, symx, seval, c178]
  refine forkD (fun hlt1 => ?_) (fun hlt1 => ?_)
  rotate_left
  · simp -implicitDefEqProofs only [syms, symx, seval, c178, fj178]
    repeat' ((first | ((with_reducible first | apply forkD | apply forkB | apply forkN | apply forkNP | apply forkNot) <;> intro _) | ((with_reducible refine ⟨z.grw.lay _ _, ?_⟩); (intro _ h' zz x _); (try simp only [lay_lay, List.append_nil] at x); (replace z := zz); (clear zz); rw [lay_nil h'])) <;> simp -implicitDefEqProofs only [syms, symx, seval, c178])
    refine hk _ _ (z.upW _ _ (by omega)) (q.on _ _) hp1 hst1 (fun k g1 g2 => hso1 k g1 (by omega)) (fun k g => ?_)
    rcases hib with hib | ⟨_, rfl⟩
    · exact hsa1 k (by omega)
    · rfl
  have hl1 := hp1.length_eq
  have hlt1' := light_perm hlt hp1
  repeat' ( simp -implicitDefEqProofs only [syms, symx, seval, c178])
  obtain ⟨I2, hI2⟩ : ∃ I : Nat → Env → Heap → Prop, I = (fun n e h' => ∃ (j : Nat) (l2 : List AtomD) (h1 : Heap), h' = h1.lay [] h1.low ∧ Ext h h1 ∧ (n = j - a ∧ a ≤ j ∧ j ≤ i ∧ l2.Perm l ∧ Stab l l2 ∧ Sifts l2 a i j ∧ SameOut l l2 a (i + 1) ∧ Holds h1 A (.row (rowA l2) 39 false)) ∧ ∃ J : Nat → Value, e = (.slice (some ⟨A, 0, none⟩) l.length c :: .int .i64 a :: .int .i64 b :: .func (.func 43) ⟨[]⟩ ⟨[]⟩ :: jr J 4 4 (.int .i64 i :: .int .i64 j :: jr J 10 43 ([])))) := ⟨_, rfl⟩
  refine W_loopN I2 _ (by rw [hI2]; exact ⟨i, l1, _, rfl, z, ⟨rfl, by omega, by omega, hp1, hst1, sifts_start hso1, fun k g => hsa1 k (by omega), q⟩, junk (by kernel_rfl)⟩) ?_
  intro n e h' hin
  rw [hI2] at hin
  obtain ⟨j, l2, h2', rfl, z, hinv, J, rfl⟩ := hin
  clear q hp1 hst1 hso1 hsa1 hl1 hlt1'
  obtain ⟨rfl, haj, hji, hp2, hst2, hsf, hsa2, q⟩ := hinv
  have hl2 := hp2.length_eq
  have hlt2 := light_perm hlt hp2
  simp -implicitDefEqProofs only [syms, symx, seval, c178]
  refine (drawN (by simp only [c178])) (z.upW _ _ (by omega)) ?_
  simp -implicitDefEqProofs only [syms, symx, seval, c178]
  refine forkD (fun hgt => ?_) (fun hgt => ?_)
  rotate_left
  · repeat' (first | simp -implicitDefEqProofs only [syms, symx, seval, c178] | ((with_reducible refine ⟨z.grw.lay _ _, ?_⟩); (intro _ h' zz x _); (try simp only [lay_lay, List.append_nil] at x); (try replace q := q.over x); (replace z := zz); (clear zz); rw [lay_nil h']))
    rw [hw]
    (rw [hI1]; with_reducible refine loopN_normal (m := _) ?_ ⟨i + 1, l2, _, rfl, z, ⟨rfl, by omega, .inl (by omega), hp2, hst2, sifts_end hsf hji (fun g => absurd g (by omega)), hsa2, q⟩, junk (by kernel_rfl)⟩; omega)
  have hwj : IntKind.i64.wrap ((j : Int) - 1) = ((j - 1 : Nat) : Int) := by rw [wrap_i64 (by omega) (by omega)]; omega
  have hin : (0 : Int) ≤ (j : Int) ∧ (j : Int) < (l.length : Int) := by omega
  have hin1 : (0 : Int) ≤ ((j - 1 : Nat) : Int) ∧ ((j - 1 : Nat) : Int) < (l.length : Int) := by omega
  have hld := fun (bs : List Blk) (w : Nat) => load_atom (bs := bs) (w := w) q (getD_at (l := l2) (i := j) (by omega))
  have hld1 := fun (bs : List Blk) (w : Nat) => load_atom (bs := bs) (w := w) q (getD_at (l := l2) (i := j - 1) (by omega))
  repeat' ( simp -implicitDefEqProofs only [syms, symx, seval, c178, hwj, hin, hin1, and_self, if_true, ↓hld, ↓hld1, valE_atom])
  refine ok_cmp _ _ (light_getD hlt2 (by omega)) (light_getD hlt2 (by omega)) _ _ (fun h' x => ?_)
  (( ((with_reducible refine KOpsX_call ?_ ?_ ?_); (· exact (by (try simp only [lsz]); have := z.size; omega)); (·  exact x )) ); replace z := z.overW x (by (try simp only [lsz]); omega); (try replace q := q.over x); rw [lay_nil h'])
  simp -implicitDefEqProofs only [syms, symx, seval, c178]
  refine forkD (fun hc => ?_) (fun hc => ?_)
  rotate_left
  · repeat' (first | simp -implicitDefEqProofs only [syms, symx, seval, c178] | ((with_reducible refine ⟨z.grw.lay _ _, ?_⟩); (intro _ h' zz x _); (try simp only [lay_lay, List.append_nil] at x); (try replace q := q.over x); (replace z := zz); (clear zz); rw [lay_nil h']))
    rw [hw]
    (rw [hI1]; with_reducible refine loopN_normal (m := _) ?_ ⟨i + 1, l2, _, rfl, z, ⟨rfl, by omega, .inl (by omega), hp2, hst2, sifts_end hsf hji (fun _ => cmpD_le hc), hsa2, q⟩, junk (by kernel_rfl)⟩; omega)
  repeat' (first | simp -implicitDefEqProofs only [syms, symx, seval, c178] | ((with_reducible refine ⟨z.grw.lay _ _, ?_⟩); (intro _ h' zz x _); (try simp only [lay_lay, List.append_nil] at x); (try replace q := q.over x); (replace z := zz); (clear zz); rw [lay_nil h']))
  have hld := fun (bs : List Blk) (w : Nat) => load_atom (bs := bs) (w := w) q (getD_at (l := l2) (i := j) (by omega))
  have hld1 := fun (bs : List Blk) (w : Nat) => load_atom (bs := bs) (w := w) q (getD_at (l := l2) (i := j - 1) (by omega))
  refine (drawN (by simp only [c178])) (z.upW _ _ (by omega)) ?_
  repeat' ( simp -implicitDefEqProofs only [syms, symx, seval, c178, hwj, hin, hin1, and_self, if_true, ↓hld, ↓hld1, valE_atom])
  refine store_atom q sz39 (by omega) (fun h3 q3 c3 => ?_)
  have hz := z.size
  refine KOpsX_chg (A := A) (by kernel_rfl) (by rw [lay_size]; omega) (by omega) (by simpa only [lay_lay, lay_size, List.append_nil, List.length_cons, List.length_nil, Nat.add_zero] using c3) ?_
  replace z := (z.upW [] (h'.size + 0) (by omega)).step c3 hA
  rw [lay_nil h3]
  clear q hld hld1
  repeat' ( simp -implicitDefEqProofs only [syms, symx, seval, c178, hwj, hin, hin1, and_self, if_true])
  refine store_atom q3 sz39 (by rw [List.length_set]; omega) (fun h4 q4 c4 => ?_)
  have hz := z.size
  refine KOpsX_chg (A := A) (by kernel_rfl) (by rw [lay_size]; omega) (by omega) (by simpa only [lay_lay, lay_size, List.append_nil, List.length_cons, List.length_nil, Nat.add_zero] using c4) ?_
  replace z := (z.upW [] (h3.size + 0) (by omega)).step c4 hA
  rw [lay_nil h4]
  clear q3
  repeat' (first | simp -implicitDefEqProofs only [syms, symx, seval, c178, hwj] | ((with_reducible refine ⟨z.grw.lay _ _, ?_⟩); (intro _ h' zz x _); (try simp only [lay_lay, List.append_nil] at x); (try replace q4 := q4.over x); (replace z := zz); (clear zz); rw [lay_nil h']))
  replace q4 : Holds _ A (.row (rowA (swapL l2 j (j - 1))) 39 false) := q4
  (rw [hI2]; with_reducible refine loopN_normal (m := _) ?_ ⟨j - 1, swapL l2 j (j - 1), _, rfl, z, ⟨rfl, by omega, by omega, (swapL_perm (by omega) (by omega)).trans hp2, hst2.trans (stab_down (by omega) (by omega) hc), sifts_step hsf (by omega) hji (by omega) hc, sameOut_swap hsa2 (by omega) hji (by omega), q4⟩, junk (by kernel_rfl)⟩; omega)
theorem ok_swapRange (l : List AtomD) (A c a b w : Nat) (fv : Value) (h hs : Heap) (z : Ext h hs) (hA : h.size ≤ A) (q : Holds hs A (.row (rowA l) 39 false)) (hab : a + w ≤ b) (hb : b + w ≤ l.length) (hn : l.length ≤ 1000) (K : Value → Heap → Prop)
    (hk : ∀ h' l', Ext h h' → Holds h' A (.row (rowA l') 39 false) → l'.Perm l → SwapsR l l' a b w → K undef h') : Ok Try.prog tab ov 223 [.slice (some ⟨A, 0, none⟩) l.length c, .int .i64 a, .int .i64 b, .int .i64 w, fv] hs K := by
  rw [lay_nil hs]
  refine Ok.into rfl tab_fn223 (bodyF N223) rfl (m := 33) rfl ?_
  simp -implicitDefEqProofs only [syms, symx, seval, c223]
  obtain ⟨I1, hI1⟩ : ∃ I : Nat → Env → Heap → Prop, I = (fun n e h' => ∃ (i : Nat) (l1 : List AtomD) (h1 : Heap), h' = h1.lay [] h1.low ∧ Ext h h1 ∧ (n = w - i ∧ i ≤ w ∧ l1.Perm l ∧ SwapsR l l1 a b i ∧ Holds h1 A (.row (rowA l1) 39 false)) ∧ ∃ J : Nat → Value, e = (.slice (some ⟨A, 0, none⟩) l.length c :: .int .i64 a :: .int .i64 b :: .int .i64 w :: jr J 4 6 (.int .i64 i :: jr J 11 27 ([])))) := ⟨_, rfl⟩
  refine W_loopN I1 _ (by rw [hI1]; exact ⟨0, l, _, rfl, z, ⟨rfl, by omega, List.Perm.refl _, swapsR_zero l a b, q⟩, junk (by kernel_rfl)⟩) ?_
  intro n e h' hin
  rw [hI1] at hin
  obtain ⟨i, l1, h1', rfl, z, hinv, J, rfl⟩ := hin
  clear q
  obtain ⟨rfl, hi, hp, hsw, q⟩ := hinv
  have hl1 := hp.length_eq
  have hw : IntKind.i64.wrap ((i : Int) + 1) = ((i + 1 : Nat) : Int) := by rw [wrap_i64 (by omega) (by omega)]; omega
  simp -implicitDefEqProofs only [syms, symx, seval, c223]
  refine forkD (fun hlt => ?_) (fun hlt => ?_)
  rotate_left
  · repeat' ( simp -implicitDefEqProofs only [syms, symx, seval, c223])
    have hiw : i = w := by omega
    subst hiw
    exact hk _ _ (z.upW _ _ (by omega)) (q.on _ _) hp hsw
  have hwa : IntKind.i64.wrap ((a : Int) + (i : Int)) = ((a + i : Nat) : Int) := by rw [wrap_i64 (by omega) (by omega)]; omega
  have hwb : IntKind.i64.wrap ((b : Int) + (i : Int)) = ((b + i : Nat) : Int) := by rw [wrap_i64 (by omega) (by omega)]; omega
  have hin : (0 : Int) ≤ ((a + i : Nat) : Int) ∧ ((a + i : Nat) : Int) < (l.length : Int) := by omega
  have hin1 : (0 : Int) ≤ ((b + i : Nat) : Int) ∧ ((b + i : Nat) : Int) < (l.length : Int) := by omega
  have hld := fun (bs : List Blk) (w : Nat) => load_atom (bs := bs) (w := w) q (getD_at (l := l1) (i := a + i) (by omega))
  have hld1 := fun (bs : List Blk) (w : Nat) => load_atom (bs := bs) (w := w) q (getD_at (l := l1) (i := b + i) (by omega))
  simp -implicitDefEqProofs only [syms, symx, seval, c223]
  refine (drawN (by simp only [c223])) (z.upW _ _ (by omega)) ?_
  repeat' ( simp -implicitDefEqProofs only [syms, symx, seval, c223, hwa, hwb, hin, hin1, and_self, if_true, ↓hld, ↓hld1, valE_atom])
  have hz := z.size
  refine store_atom q sz39 (by omega) (fun h3 q3 c3 => ?_)
  refine KOpsX_chg (A := A) (by kernel_rfl) (by rw [lay_size]; omega) (by omega) (by simpa only [lay_lay, lay_size, List.append_nil, List.length_cons, List.length_nil, Nat.add_zero] using c3) ?_
  replace z := (z.upW [] (h1'.size + 0) (by omega)).step c3 hA
  rw [lay_nil h3]
  clear q hld hld1
  repeat' ( simp -implicitDefEqProofs only [syms, symx, seval, c223, hwa, hwb, hin, hin1, and_self, if_true])
  refine store_atom q3 sz39 (by rw [List.length_set]; omega) (fun h4 q4 c4 => ?_)
  have hz := z.size
  refine KOpsX_chg (A := A) (by kernel_rfl) (by rw [lay_size]; omega) (by omega) (by simpa only [lay_lay, lay_size, List.append_nil, List.length_cons, List.length_nil, Nat.add_zero] using c4) ?_
  replace z := (z.upW [] (h3.size + 0) (by omega)).step c4 hA
  rw [lay_nil h4]
  clear q3
  repeat' (first | simp -implicitDefEqProofs only [syms, symx, seval, c223] | ((with_reducible refine ⟨z.grw.lay _ _, ?_⟩); (intro _ h' zz x _); (try simp only [lay_lay, List.append_nil] at x); (try replace q4 := q4.over x); (replace z := zz); (clear zz); rw [lay_nil h']))
  rw [hw]
  replace q4 : Holds _ A (.row (rowA (swapL l1 (a + i) (b + i))) 39 false) := q4
  (rw [hI1]; with_reducible refine loopN_normal (m := _) ?_ ⟨i + 1, swapL l1 (a + i) (b + i), _, rfl, z, ⟨rfl, by omega, (swapL_perm (by omega) (by omega)).trans hp, swapsR_step hsw hab (by omega) (by omega), q4⟩, junk (by kernel_rfl)⟩; omega)
theorem ok_rotate (l : List AtomD) (A c a m b : Nat) (fv : Value) (h hs : Heap) (z : Ext h hs) (hA : h.size ≤ A) (q : Holds hs A (.row (rowA l) 39 false)) (ham : a < m) (hmb : m < b) (hb : b ≤ l.length) (hn : l.length ≤ 1000) (K : Value → Heap → Prop)
    (hk : ∀ h', Ext h h' → Holds h' A (.row (rowA (turnL l a m b)) 39 false) → (turnL l a m b).Perm l → K undef h') : Ok Try.prog tab ov 211 [.slice (some ⟨A, 0, none⟩) l.length c, .int .i64 a, .int .i64 m, .int .i64 b, fv] hs K := by
  rw [lay_nil hs]
  have hw1 : IntKind.i64.wrap ((m : Int) - (a : Int)) = ((m - a : Nat) : Int) := by rw [wrap_i64 (by omega) (by omega)]; omega
  have hw2 : IntKind.i64.wrap ((b : Int) - (m : Int)) = ((b - m : Nat) : Int) := by rw [wrap_i64 (by omega) (by omega)]; omega
  refine Ok.into rfl tab_fn211 (bodyF N211) rfl (m := 53) rfl ?_
  simp -implicitDefEqProofs only [syms, symx, seval, c211, hw1, hw2]
  obtain ⟨I1, hI1⟩ : ∃ I : Nat → Env → Heap → Prop, I = (fun n e h' => ∃ (i j : Nat) (l1 : List AtomD) (h1 : Heap), h' = h1.lay [] h1.low ∧ Ext h h1 ∧ (n = i + j ∧ 0 < i ∧ 0 < j ∧ i ≤ m ∧ m + j ≤ l.length ∧ l1.Perm l ∧ Turns (turnL l a m b) l1 m i j ∧ Holds h1 A (.row (rowA l1) 39 false)) ∧ ∃ J : Nat → Value, e = (.slice (some ⟨A, 0, none⟩) l.length c :: J 1 :: .int .i64 m :: J 3 :: fv :: jr J 5 5 (.int .i64 i :: .int .i64 j :: jr J 12 46 ([])))) := ⟨_, rfl⟩
  refine W_loopN I1 _ (by rw [hI1]; exact ⟨m - a, b - m, l, _, rfl, z, ⟨rfl, by omega, by omega, by omega, by omega, List.Perm.refl _, turns_start (by omega) (by omega) hb, q⟩, junk (by kernel_rfl)⟩) ?_
  intro n e h' hin
  rw [hI1] at hin
  obtain ⟨i, j, l1, h1', rfl, z, hinv, J, rfl⟩ := hin
  clear q
  obtain ⟨rfl, hi0, hj0, him, hjm, hp, htu, q⟩ := hinv
  have hl1 := hp.length_eq
  simp -implicitDefEqProofs only [syms, symx, seval, c211]
  have hwmi : IntKind.i64.wrap ((m : Int) - (i : Int)) = ((m - i : Nat) : Int) := by rw [wrap_i64 (by omega) (by omega)]; omega
  refine forkN (fun hne => ?_) (fun heq => ?_)
  rotate_left
  · have hij : i = j := by omega
    subst hij
    repeat' ( simp -implicitDefEqProofs only [syms, symx, seval, c211, hwmi])
    have key := fun K hk => ok_swapRange l1 A c (m - i) m i fv h (h1'.lay [] h1'.low) (z.upW _ _ (by omega)) hA (q.on _ _) (by omega) (by omega) (by omega) K hk
    simp only [hl1] at key
    refine key _ (fun h' l' x q' hp' hs' => ?_)
    have hfin : l' = turnL l a m b := ext_getD (by rw [turnL_length, hp'.length_eq, hl1]) (fun k => (turns_end htu him hs' k).symm)
    subst hfin
    rw [lay_nil h']
    repeat' ( simp -implicitDefEqProofs only [syms, symx, seval, c211])
    exact hk _ (x.upW _ _ (by omega)) (q'.on _ _) (hp'.trans hp)
  simp -implicitDefEqProofs only [syms, symx, seval, c211]
  refine forkD (fun hgt => ?_) (fun hgt => ?_)
  · repeat' ( simp -implicitDefEqProofs only [syms, symx, seval, c211, hwmi])
    have key := fun K hk => ok_swapRange l1 A c (m - i) m j fv h (h1'.lay [] h1'.low) (z.upW _ _ (by omega)) hA (q.on _ _) (by omega) (by omega) (by omega) K hk
    simp only [hl1] at key
    refine key _ (fun h' l' x q' hp' hs' => ?_)
    replace z := x
    rw [lay_nil h']
    have hwij : IntKind.i64.wrap ((i : Int) - (j : Int)) = ((i - j : Nat) : Int) := by rw [wrap_i64 (by omega) (by omega)]; omega
    repeat' ( simp -implicitDefEqProofs only [syms, symx, seval, c211, hwij])
    (rw [hI1]; with_reducible refine loopN_normal (m := _) ?_ ⟨i - j, j, l', _, rfl, z, ⟨rfl, by omega, by omega, by omega, by omega, hp'.trans hp, turns_left htu him (by omega) hs', q'⟩, junk (by kernel_rfl)⟩; omega)
  · have hwmj : IntKind.i64.wrap ((m : Int) + (j : Int)) = ((m + j : Nat) : Int) := by rw [wrap_i64 (by omega) (by omega)]; omega
    have hwmji : IntKind.i64.wrap (((m + j : Nat) : Int) - (i : Int)) = ((m + j - i : Nat) : Int) := by rw [wrap_i64 (by omega) (by omega)]; omega
    repeat' ( simp -implicitDefEqProofs only [syms, symx, seval, c211, hwmi, hwmj, hwmji])
    have key := fun K hk => ok_swapRange l1 A c (m - i) (m + j - i) i fv h (h1'.lay [] h1'.low) (z.upW _ _ (by omega)) hA (q.on _ _) (by omega) (by omega) (by omega) K hk
    simp only [hl1] at key
    refine key _ (fun h' l' x q' hp' hs' => ?_)
    replace z := x
    rw [lay_nil h']
    have hwji : IntKind.i64.wrap ((j : Int) - (i : Int)) = ((j - i : Nat) : Int) := by rw [wrap_i64 (by omega) (by omega)]; omega
    repeat' ( simp -implicitDefEqProofs only [syms, symx, seval, c211, hwji])
    (rw [hI1]; with_reducible refine loopN_normal (m := _) ?_ ⟨i, j - i, l', _, rfl, z, ⟨rfl, by omega, by omega, by omega, by omega, hp'.trans hp, turns_right htu him (by omega) hs', q'⟩, junk (by kernel_rfl)⟩; omega)
end Go.Proofs.Ytompindebndddaa
