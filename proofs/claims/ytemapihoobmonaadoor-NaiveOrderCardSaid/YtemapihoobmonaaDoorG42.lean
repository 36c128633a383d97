/- Walks: sorting in place: Am.one block Written out by fill2.py. No condition. -/
import Derived.Test.YtemapihoobmonaaDoorG33
import Derived.Test.YtemapihoobmonaaDoorG26
import Derived.Test.YtemapihoobmonaaDoorGSort2
import Derived.Test.YtemapihoobmonaaDoorG21
import Derived.Test.YtemapihoobmonaaDoorGSort3
import Derived.Test.YtemapihoobmonaaDoorG29
namespace Go.Proofs.YtemapihoobmonaaDoor
open Go.Am
set_option linter.unusedSimpArgs false
set_option linter.unusedVariables false
set_option maxRecDepth 100000
set_option maxHeartbeats 0
theorem ok_insertion (l : List AtomD) (A c a b : Nat) (h hs : Heap) (z : Ext h hs) (hA : h.size ≤ A) (q : Holds hs A (.row (rowA l) 36 false)) (hab : a ≤ b) (hb : b ≤ l.length) (hn : l.length ≤ 100000) (hlt : ∀ x ∈ l, x.light = true) (K : Value → Heap → Prop)
    (hk : ∀ h' l', Ext h h' → Holds h' A (.row (rowA l') 36 false) → l'.Perm l → Stab l l' → SortedR l' a b → SameOut l l' a b → K undef h') : Ok Tryd.prog tab ov 60 [.slice (some ⟨A, 0, none⟩) l.length c, .int .i64 a, .int .i64 b, .func (.func 29) ⟨[]⟩ ⟨[]⟩] hs K := by
  rw [lay_nil hs]
  have hw0 : IntKind.i64.wrap ((a : Int) + 1) = ((a + 1 : Nat) : Int) := by rw [wrap_i64 (by omega) (by omega)]; omega
  refine Ok.into rfl tab_fn60 (bodyF N60) rfl (m := 49) rfl ?_
  simp -implicitDefEqProofs only [syms, symx, seval, c60]
  rw [hw0]
  obtain ⟨I1, hI1⟩ : ∃ I : Nat → Env → Heap → Prop, I = (fun n e h' => ∃ (i : Nat) (l1 : List AtomD) (h1 : Heap), h' = h1.lay [] h1.low ∧ Ext h h1 ∧ (n = b - i ∧ a < i ∧ (i ≤ b ∨ (i = a + 1 ∧ l1 = l)) ∧ l1.Perm l ∧ Stab l l1 ∧ SortedR l1 a i ∧ SameOut l l1 a i ∧ Holds h1 A (.row (rowA l1) 36 false)) ∧ ∃ J : Nat → Value, e = (.slice (some ⟨A, 0, none⟩) l.length c :: .int .i64 a :: .int .i64 b :: .func (.func 29) ⟨[]⟩ ⟨[]⟩ :: jr J 4 4 (.int .i64 i :: jr J 9 44 ([])))) := ⟨_, rfl⟩
  refine W_loopN I1 _ (by rw [hI1]; exact ⟨a + 1, l, _, rfl, z, ⟨rfl, by omega, .inr ⟨rfl, rfl⟩, List.Perm.refl _, Stab.refl _, fun k g1 g2 => by omega, fun k _ => rfl, q⟩, junk (by kernel_rfl)⟩) ?_
  intro n e h' hin
  rw [hI1] at hin
  obtain ⟨i, l1, h1', rfl, z, hinv, J, rfl⟩ := hin
  clear q
  obtain ⟨rfl, hai, hib, hp1, hst1, hso1, hsa1, q⟩ := hinv
  have hw : IntKind.i64.wrap ((i : Int) + 1) = ((i + 1 : Nat) : Int) := by rw [wrap_i64 (by omega) (by omega)]; omega
  simp -implicitDefEqProofs only [syms, symx, seval, c60]
  refine forkD (fun hlt1 => ?_) (fun hlt1 => ?_)
  rotate_left
  · simp -implicitDefEqProofs only [syms, symx, seval, c60, fj60]
    repeat' ((first | ((with_reducible first | apply forkD | apply forkB | apply forkN | apply forkNP | apply forkNot) <;> intro _) | ((with_reducible refine ⟨z.grw.lay _ _, ?_⟩); (intro _ h' zz x _); (try simp only [lay_lay, List.append_nil] at x); (replace z := zz); (clear zz); rw [lay_nil h'])) <;> simp -implicitDefEqProofs only [syms, symx, seval, c60])
    refine hk _ _ (z.upW _ _ (by omega)) (q.on _ _) hp1 hst1 (fun k g1 g2 => hso1 k g1 (by omega)) (fun k g => ?_)
    rcases hib with hib | ⟨_, rfl⟩
    · exact hsa1 k (by omega)
    · rfl
  have hl1 := hp1.length_eq
  have hlt1' := light_perm hlt hp1
  repeat' ( simp -implicitDefEqProofs only [syms, symx, seval, c60])
  obtain ⟨I2, hI2⟩ : ∃ I : Nat → Env → Heap → Prop, I = (fun n e h' => ∃ (j : Nat) (l2 : List AtomD) (h1 : Heap), h' = h1.lay [] h1.low ∧ Ext h h1 ∧ (n = j - a ∧ a ≤ j ∧ j ≤ i ∧ l2.Perm l ∧ Stab l l2 ∧ Sifts l2 a i j ∧ SameOut l l2 a (i + 1) ∧ Holds h1 A (.row (rowA l2) 36 false)) ∧ ∃ J : Nat → Value, e = (.slice (some ⟨A, 0, none⟩) l.length c :: .int .i64 a :: .int .i64 b :: .func (.func 29) ⟨[]⟩ ⟨[]⟩ :: jr J 4 4 (.int .i64 i :: .int .i64 j :: jr J 10 43 ([])))) := ⟨_, rfl⟩
  refine W_loopN I2 _ (by rw [hI2]; exact ⟨i, l1, _, rfl, z, ⟨rfl, by omega, by omega, hp1, hst1, sifts_start hso1, fun k g => hsa1 k (by omega), q⟩, junk (by kernel_rfl)⟩) ?_
  intro n e h' hin
  rw [hI2] at hin
  obtain ⟨j, l2, h2', rfl, z, hinv, J, rfl⟩ := hin
  clear q hp1 hst1 hso1 hsa1 hl1 hlt1'
  obtain ⟨rfl, haj, hji, hp2, hst2, hsf, hsa2, q⟩ := hinv
  have hl2 := hp2.length_eq
  have hlt2 := light_perm hlt hp2
  simp -implicitDefEqProofs only [syms, symx, seval, c60]
  refine (drawN (by simp only [c60])) (z.upW _ _ (by omega)) ?_
  simp -implicitDefEqProofs only [syms, symx, seval, c60]
  refine forkD (fun hgt => ?_) (fun hgt => ?_)
  rotate_left
  · repeat' (first | simp -implicitDefEqProofs only [syms, symx, seval, c60] | ((with_reducible refine ⟨z.grw.lay _ _, ?_⟩); (intro _ h' zz x _); (try simp only [lay_lay, List.append_nil] at x); (try replace q := q.over x); (replace z := zz); (clear zz); rw [lay_nil h']))
    rw [hw]
    (rw [hI1]; with_reducible refine loopN_normal (m := _) ?_ ⟨i + 1, l2, _, rfl, z, ⟨rfl, by omega, .inl (by omega), hp2, hst2, sifts_end hsf hji (fun g => absurd g (by omega)), hsa2, q⟩, junk (by kernel_rfl)⟩; omega)
  have hwj : IntKind.i64.wrap ((j : Int) - 1) = ((j - 1 : Nat) : Int) := by rw [wrap_i64 (by omega) (by omega)]; omega
  have hin : (0 : Int) ≤ (j : Int) ∧ (j : Int) < (l.length : Int) := by omega
  have hin1 : (0 : Int) ≤ ((j - 1 : Nat) : Int) ∧ ((j - 1 : Nat) : Int) < (l.length : Int) := by omega
  have hld := fun (bs : List Blk) (w : Nat) => load_atom (bs := bs) (w := w) q (getD_at (l := l2) (i := j) (by omega))
  have hld1 := fun (bs : List Blk) (w : Nat) => load_atom (bs := bs) (w := w) q (getD_at (l := l2) (i := j - 1) (by omega))
  repeat' ( simp -implicitDefEqProofs only [syms, symx, seval, c60, hwj, hin, hin1, and_self, if_true, ↓hld, ↓hld1, valE_atom])
  refine ok_cmp _ _ (light_getD hlt2 (by omega)) (light_getD hlt2 (by omega)) _ _ (fun h' x => ?_)
  (( ((with_reducible refine KOpsX_call ?_ ?_ ?_); (· exact (by (try simp only [lsz]); have := z.size; omega)); (·  exact x )) ); replace z := z.overW x (by (try simp only [lsz]); omega); (try replace q := q.over x); rw [lay_nil h'])
  simp -implicitDefEqProofs only [syms, symx, seval, c60]
  refine forkD (fun hc => ?_) (fun hc => ?_)
  rotate_left
  · repeat' (first | simp -implicitDefEqProofs only [syms, symx, seval, c60] | ((with_reducible refine ⟨z.grw.lay _ _, ?_⟩); (intro _ h' zz x _); (try simp only [lay_lay, List.append_nil] at x); (try replace q := q.over x); (replace z := zz); (clear zz); rw [lay_nil h']))
    rw [hw]
    (rw [hI1]; with_reducible refine loopN_normal (m := _) ?_ ⟨i + 1, l2, _, rfl, z, ⟨rfl, by omega, .inl (by omega), hp2, hst2, sifts_end hsf hji (fun _ => cmpD_le hc), hsa2, q⟩, junk (by kernel_rfl)⟩; omega)
  repeat' (first | simp -implicitDefEqProofs only [syms, symx, seval, c60] | ((with_reducible refine ⟨z.grw.lay _ _, ?_⟩); (intro _ h' zz x _); (try simp only [lay_lay, List.append_nil] at x); (try replace q := q.over x); (replace z := zz); (clear zz); rw [lay_nil h']))
  have hld := fun (bs : List Blk) (w : Nat) => load_atom (bs := bs) (w := w) q (getD_at (l := l2) (i := j) (by omega))
  have hld1 := fun (bs : List Blk) (w : Nat) => load_atom (bs := bs) (w := w) q (getD_at (l := l2) (i := j - 1) (by omega))
  refine (drawN (by simp only [c60])) (z.upW _ _ (by omega)) ?_
  repeat' ( simp -implicitDefEqProofs only [syms, symx, seval, c60, hwj, hin, hin1, and_self, if_true, ↓hld, ↓hld1, valE_atom])
  refine store_atom q sz36 (by omega) (fun h3 q3 c3 => ?_)
  have hz := z.size
  refine KOpsX_chg (A := A) (by kernel_rfl) (by rw [lay_size]; omega) (by omega) (by simpa only [lay_lay, lay_size, List.append_nil, List.length_cons, List.length_nil, Nat.add_zero] using c3) ?_
  replace z := (z.upW [] (h'.size + 0) (by omega)).step c3 hA
  rw [lay_nil h3]
  clear q hld hld1
  repeat' ( simp -implicitDefEqProofs only [syms, symx, seval, c60, hwj, hin, hin1, and_self, if_true])
  refine store_atom q3 sz36 (by rw [List.length_set]; omega) (fun h4 q4 c4 => ?_)
  have hz := z.size
  refine KOpsX_chg (A := A) (by kernel_rfl) (by rw [lay_size]; omega) (by omega) (by simpa only [lay_lay, lay_size, List.append_nil, List.length_cons, List.length_nil, Nat.add_zero] using c4) ?_
  replace z := (z.upW [] (h3.size + 0) (by omega)).step c4 hA
  rw [lay_nil h4]
  clear q3
  repeat' (first | simp -implicitDefEqProofs only [syms, symx, seval, c60, hwj] | ((with_reducible refine ⟨z.grw.lay _ _, ?_⟩); (intro _ h' zz x _); (try simp only [lay_lay, List.append_nil] at x); (try replace q4 := q4.over x); (replace z := zz); (clear zz); rw [lay_nil h']))
  replace q4 : Holds _ A (.row (rowA (swapL l2 j (j - 1))) 36 false) := q4
  (rw [hI2]; with_reducible refine loopN_normal (m := _) ?_ ⟨j - 1, swapL l2 j (j - 1), _, rfl, z, ⟨rfl, by omega, by omega, (swapL_perm (by omega) (by omega)).trans hp2, hst2.trans (stab_down (by omega) (by omega) hc), sifts_step hsf (by omega) hji (by omega) hc, sameOut_swap hsa2 (by omega) hji (by omega), q4⟩, junk (by kernel_rfl)⟩; omega)
theorem ok_swapRange (l : List AtomD) (A c a b w : Nat) (fv : Value) (h hs : Heap) (z : Ext h hs) (hA : h.size ≤ A) (q : Holds hs A (.row (rowA l) 36 false)) (hab : a + w ≤ b) (hb : b + w ≤ l.length) (hn : l.length ≤ 100000) (K : Value → Heap → Prop)
    (hk : ∀ h' l', Ext h h' → Holds h' A (.row (rowA l') 36 false) → l'.Perm l → SwapsR l l' a b w → K undef h') : Ok Tryd.prog tab ov 84 [.slice (some ⟨A, 0, none⟩) l.length c, .int .i64 a, .int .i64 b, .int .i64 w, fv] hs K := by
  rw [lay_nil hs]
  refine Ok.into rfl tab_fn84 (bodyF N84) rfl (m := 33) rfl ?_
  simp -implicitDefEqProofs only [syms, symx, seval, c84]
  obtain ⟨I1, hI1⟩ : ∃ I : Nat → Env → Heap → Prop, I = (fun n e h' => ∃ (i : Nat) (l1 : List AtomD) (h1 : Heap), h' = h1.lay [] h1.low ∧ Ext h h1 ∧ (n = w - i ∧ i ≤ w ∧ l1.Perm l ∧ SwapsR l l1 a b i ∧ Holds h1 A (.row (rowA l1) 36 false)) ∧ ∃ J : Nat → Value, e = (.slice (some ⟨A, 0, none⟩) l.length c :: .int .i64 a :: .int .i64 b :: .int .i64 w :: jr J 4 6 (.int .i64 i :: jr J 11 27 ([])))) := ⟨_, rfl⟩
  refine W_loopN I1 _ (by rw [hI1]; exact ⟨0, l, _, rfl, z, ⟨rfl, by omega, List.Perm.refl _, swapsR_zero l a b, q⟩, junk (by kernel_rfl)⟩) ?_
  intro n e h' hin
  rw [hI1] at hin
  obtain ⟨i, l1, h1', rfl, z, hinv, J, rfl⟩ := hin
  clear q
  obtain ⟨rfl, hi, hp, hsw, q⟩ := hinv
  have hl1 := hp.length_eq
  have hw : IntKind.i64.wrap ((i : Int) + 1) = ((i + 1 : Nat) : Int) := by rw [wrap_i64 (by omega) (by omega)]; omega
  simp -implicitDefEqProofs only [syms, symx, seval, c84]
  refine forkD (fun hlt => ?_) (fun hlt => ?_)
  rotate_left
  · repeat' ( simp -implicitDefEqProofs only [syms, symx, seval, c84])
    have hiw : i = w := by omega
    subst hiw
    exact hk _ _ (z.upW _ _ (by omega)) (q.on _ _) hp hsw
  have hwa : IntKind.i64.wrap ((a : Int) + (i : Int)) = ((a + i : Nat) : Int) := by rw [wrap_i64 (by omega) (by omega)]; omega
  have hwb : IntKind.i64.wrap ((b : Int) + (i : Int)) = ((b + i : Nat) : Int) := by rw [wrap_i64 (by omega) (by omega)]; omega
  have hin : (0 : Int) ≤ ((a + i : Nat) : Int) ∧ ((a + i : Nat) : Int) < (l.length : Int) := by omega
  have hin1 : (0 : Int) ≤ ((b + i : Nat) : Int) ∧ ((b + i : Nat) : Int) < (l.length : Int) := by omega
  have hld := fun (bs : List Blk) (w : Nat) => load_atom (bs := bs) (w := w) q (getD_at (l := l1) (i := a + i) (by omega))
  have hld1 := fun (bs : List Blk) (w : Nat) => load_atom (bs := bs) (w := w) q (getD_at (l := l1) (i := b + i) (by omega))
  simp -implicitDefEqProofs only [syms, symx, seval, c84]
  refine (drawN (by simp only [c84])) (z.upW _ _ (by omega)) ?_
  repeat' ( simp -implicitDefEqProofs only [syms, symx, seval, c84, hwa, hwb, hin, hin1, and_self, if_true, ↓hld, ↓hld1, valE_atom])
  have hz := z.size
  refine store_atom q sz36 (by omega) (fun h3 q3 c3 => ?_)
  refine KOpsX_chg (A := A) (by kernel_rfl) (by rw [lay_size]; omega) (by omega) (by simpa only [lay_lay, lay_size, List.append_nil, List.length_cons, List.length_nil, Nat.add_zero] using c3) ?_
  replace z := (z.upW [] (h1'.size + 0) (by omega)).step c3 hA
  rw [lay_nil h3]
  clear q hld hld1
  repeat' ( simp -implicitDefEqProofs only [syms, symx, seval, c84, hwa, hwb, hin, hin1, and_self, if_true])
  refine store_atom q3 sz36 (by rw [List.length_set]; omega) (fun h4 q4 c4 => ?_)
  have hz := z.size
  refine KOpsX_chg (A := A) (by kernel_rfl) (by rw [lay_size]; omega) (by omega) (by simpa only [lay_lay, lay_size, List.append_nil, List.length_cons, List.length_nil, Nat.add_zero] using c4) ?_
  replace z := (z.upW [] (h3.size + 0) (by omega)).step c4 hA
  rw [lay_nil h4]
  clear q3
  repeat' (first | simp -implicitDefEqProofs only [syms, symx, seval, c84] | ((with_reducible refine ⟨z.grw.lay _ _, ?_⟩); (intro _ h' zz x _); (try simp only [lay_lay, List.append_nil] at x); (try replace q4 := q4.over x); (replace z := zz); (clear zz); rw [lay_nil h']))
  rw [hw]
  replace q4 : Holds _ A (.row (rowA (swapL l1 (a + i) (b + i))) 36 false) := q4
  (rw [hI1]; with_reducible refine loopN_normal (m := _) ?_ ⟨i + 1, swapL l1 (a + i) (b + i), _, rfl, z, ⟨rfl, by omega, (swapL_perm (by omega) (by omega)).trans hp, swapsR_step hsw hab (by omega) (by omega), q4⟩, junk (by kernel_rfl)⟩; omega)
theorem ok_rotate (l : List AtomD) (A c a m b : Nat) (fv : Value) (h hs : Heap) (z : Ext h hs) (hA : h.size ≤ A) (q : Holds hs A (.row (rowA l) 36 false)) (ham : a < m) (hmb : m < b) (hb : b ≤ l.length) (hn : l.length ≤ 100000) (K : Value → Heap → Prop)
    (hk : ∀ h', Ext h h' → Holds h' A (.row (rowA (turnL l a m b)) 36 false) → (turnL l a m b).Perm l → K undef h') : Ok Tryd.prog tab ov 73 [.slice (some ⟨A, 0, none⟩) l.length c, .int .i64 a, .int .i64 m, .int .i64 b, fv] hs K := by
  rw [lay_nil hs]
  have hw1 : IntKind.i64.wrap ((m : Int) - (a : Int)) = ((m - a : Nat) : Int) := by rw [wrap_i64 (by omega) (by omega)]; omega
  have hw2 : IntKind.i64.wrap ((b : Int) - (m : Int)) = ((b - m : Nat) : Int) := by rw [wrap_i64 (by omega) (by omega)]; omega
  refine Ok.into rfl tab_fn73 (bodyF N73) rfl (m := 53) rfl ?_
  simp -implicitDefEqProofs only [syms, symx, seval, c73, hw1, hw2]
  obtain ⟨I1, hI1⟩ : ∃ I : Nat → Env → Heap → Prop, I = (fun n e h' => ∃ (i j : Nat) (l1 : List AtomD) (h1 : Heap), h' = h1.lay [] h1.low ∧ Ext h h1 ∧ (n = i + j ∧ 0 < i ∧ 0 < j ∧ i ≤ m ∧ m + j ≤ l.length ∧ l1.Perm l ∧ Turns (turnL l a m b) l1 m i j ∧ Holds h1 A (.row (rowA l1) 36 false)) ∧ ∃ J : Nat → Value, e = (.slice (some ⟨A, 0, none⟩) l.length c :: J 1 :: .int .i64 m :: J 3 :: fv :: jr J 5 5 (.int .i64 i :: .int .i64 j :: jr J 12 46 ([])))) := ⟨_, rfl⟩
  refine W_loopN I1 _ (by rw [hI1]; exact ⟨m - a, b - m, l, _, rfl, z, ⟨rfl, by omega, by omega, by omega, by omega, List.Perm.refl _, turns_start (by omega) (by omega) hb, q⟩, junk (by kernel_rfl)⟩) ?_
  intro n e h' hin
  rw [hI1] at hin
  obtain ⟨i, j, l1, h1', rfl, z, hinv, J, rfl⟩ := hin
  clear q
  obtain ⟨rfl, hi0, hj0, him, hjm, hp, htu, q⟩ := hinv
  have hl1 := hp.length_eq
  simp -implicitDefEqProofs only [syms, symx, seval, c73]
  have hwmi : IntKind.i64.wrap ((m : Int) - (i : Int)) = ((m - i : Nat) : Int) := by rw [wrap_i64 (by omega) (by omega)]; omega
  refine forkN (fun hne => ?_) (fun heq => ?_)
  rotate_left
  · have hij : i = j := by omega
    subst hij
    repeat' ( simp -implicitDefEqProofs only [syms, symx, seval, c73, hwmi])
    have key := fun K hk => ok_swapRange l1 A c (m - i) m i fv h (h1'.lay [] h1'.low) (z.upW _ _ (by omega)) hA (q.on _ _) (by omega) (by omega) (by omega) K hk
    simp only [hl1] at key
    refine key _ (fun h' l' x q' hp' hs' => ?_)
    have hfin : l' = turnL l a m b := ext_getD (by rw [turnL_length, hp'.length_eq, hl1]) (fun k => (turns_end htu him hs' k).symm)
    subst hfin
    rw [lay_nil h']
    repeat' ( simp -implicitDefEqProofs only [syms, symx, seval, c73])
    exact hk _ (x.upW _ _ (by omega)) (q'.on _ _) (hp'.trans hp)
  simp -implicitDefEqProofs only [syms, symx, seval, c73]
  refine forkD (fun hgt => ?_) (fun hgt => ?_)
  · repeat' ( simp -implicitDefEqProofs only [syms, symx, seval, c73, hwmi])
    have key := fun K hk => ok_swapRange l1 A c (m - i) m j fv h (h1'.lay [] h1'.low) (z.upW _ _ (by omega)) hA (q.on _ _) (by omega) (by omega) (by omega) K hk
    simp only [hl1] at key
    refine key _ (fun h' l' x q' hp' hs' => ?_)
    replace z := x
    rw [lay_nil h']
    have hwij : IntKind.i64.wrap ((i : Int) - (j : Int)) = ((i - j : Nat) : Int) := by rw [wrap_i64 (by omega) (by omega)]; omega
    repeat' ( simp -implicitDefEqProofs only [syms, symx, seval, c73, hwij])
    (rw [hI1]; with_reducible refine loopN_normal (m := _) ?_ ⟨i - j, j, l', _, rfl, z, ⟨rfl, by omega, by omega, by omega, by omega, hp'.trans hp, turns_left htu him (by omega) hs', q'⟩, junk (by kernel_rfl)⟩; omega)
  · have hwmj : IntKind.i64.wrap ((m : Int) + (j : Int)) = ((m + j : Nat) : Int) := by rw [wrap_i64 (by omega) (by omega)]; omega
    have hwmji : IntKind.i64.wrap (((m + j : Nat) : Int) - (i : Int)) = ((m + j - i : Nat) : Int) := by rw [wrap_i64 (by omega) (by omega)]; omega
    repeat' ( simp -implicitDefEqProofs only [syms, symx, seval, c73, hwmi, hwmj, hwmji])
    have key := fun K hk => ok_swapRange l1 A c (m - i) (m + j - i) i fv h (h1'.lay [] h1'.low) (z.upW _ _ (by omega)) hA (q.on _ _) (by omega) (by omega) (by omega) K hk
    simp only [hl1] at key
    refine key _ (fun h' l' x q' hp' hs' => ?_)
    replace z := x
    rw [lay_nil h']
    have hwji : IntKind.i64.wrap ((j : Int) - (i : Int)) = ((j - i : Nat) : Int) := by rw [wrap_i64 (by omega) (by omega)]; omega
    repeat' ( simp -implicitDefEqProofs only [syms, symx, seval, c73, hwji])
    (rw [hI1]; with_reducible refine loopN_normal (m := _) ?_ ⟨i, j - i, l', _, rfl, z, ⟨rfl, by omega, by omega, by omega, by omega, hp'.trans hp, turns_right htu him (by omega) hs', q'⟩, junk (by kernel_rfl)⟩; omega)
def SymOk (sz : Nat) : Prop := ∀ (l : List AtomD) (A c a m b : Nat) (h hs : Heap), Ext h hs → h.size ≤ A → Holds hs A (.row (rowA l) 36 false) → a < m → m < b → b - a ≤ sz → b ≤ l.length → l.length ≤ 100000 → (∀ x ∈ l, x.light = true) → SortedR l a m → SortedR l m b → ∀ (K : Value → Heap → Prop),
  (∀ h' l', Ext h h' → Holds h' A (.row (rowA l') 36 false) → Mv l l' a b → SortedR l' a b → K undef h') → Ok Tryd.prog tab ov 61 [.slice (some ⟨A, 0, none⟩) l.length c, .int .i64 a, .int .i64 m, .int .i64 b, .func (.func 29) ⟨[]⟩ ⟨[]⟩] hs K
theorem half_u64 (x y : Nat) (h : x + y ≤ 1000000) : IntKind.i64.wrap ((x : Int) + (y : Int)) = ((x + y : Nat) : Int) ∧ IntKind.u64.wrap ((x + y : Nat) : Int) = ((x + y : Nat) : Int) ∧ IntKind.i64.wrap (((x + y) / 2 : Nat) : Int) = (((x + y) / 2 : Nat) : Int) ∧ Int.fdiv ((x + y : Nat) : Int) (2 ^ (min (1 : Int).toNat (IntKind.bits .u64))) = (((x + y) / 2 : Nat) : Int) := by
  refine ⟨by rw [wrap_i64 (by omega) (by omega)]; omega, by unfold IntKind.wrap; simp [IntKind.bits]; omega, wrap_i64 (by omega) (by omega), ?_⟩
  show Int.fdiv ((x + y : Nat) : Int) 2 = _
  rw [Int.fdiv_eq_ediv_of_nonneg _ (by omega)]
  omega
theorem ok_symStep (sz : Nat) (ih : SymOk sz) : SymOk (sz + 1) := by
  intro l A c a m b h hs z hA q ham hmb hsz hb hn hlt h1 h2 K hk
  rw [lay_nil hs]
  have hw1 : IntKind.i64.wrap ((m : Int) - (a : Int)) = ((m - a : Nat) : Int) := by rw [wrap_i64 (by omega) (by omega)]; omega
  have hw2 : IntKind.i64.wrap ((b : Int) - (m : Int)) = ((b - m : Nat) : Int) := by rw [wrap_i64 (by omega) (by omega)]; omega
  have hla : l[a]? = some (l.getD a noAtomD) := getD_at (by omega)
  have hlm : l[m]? = some (l.getD m noAtomD) := getD_at (by omega)
  refine Ok.into rfl tab_fn61 (bodyF N61) rfl (m := 215) rfl ?_
  simp -implicitDefEqProofs only [syms, symx, seval, c61, hw1, hw2]
  refine forkB (fun hone => ?_) (fun hone => ?_)
  · -- Am.one element in front
    simp -implicitDefEqProofs only [syms, symx, seval, c61]
    obtain ⟨I1, hI1⟩ : ∃ I : Nat → Env → Heap → Prop, I = (fun n e h' => ∃ (i j : Nat) (h1 : Heap), h' = h1.lay [] h1.low ∧ Ext h h1 ∧ (n = j - i ∧ m ≤ i ∧ i ≤ j ∧ j ≤ b ∧ (i = m ∨ cmpD (l.getD (i - 1) noAtomD) (l.getD a noAtomD) < 0) ∧ (j = b ∨ ¬ cmpD (l.getD j noAtomD) (l.getD a noAtomD) < 0) ∧ Holds h1 A (.row (rowA l) 36 false)) ∧ ∃ J : Nat → Value, e = (.slice (some ⟨A, 0, none⟩) l.length c :: .int .i64 a :: .int .i64 m :: .int .i64 b :: .func (.func 29) ⟨[]⟩ ⟨[]⟩ :: jr J 5 5 (.int .i64 i :: .int .i64 j :: jr J 12 208 ([])))) := ⟨_, rfl⟩
    refine W_loopN I1 _ (by rw [hI1]; exact ⟨m, b, _, rfl, z, ⟨rfl, by omega, by omega, by omega, .inl rfl, .inl rfl, q⟩, junk (by kernel_rfl)⟩) ?_
    intro n e h' hin
    rw [hI1] at hin
    obtain ⟨i, j, h1', rfl, z, hinv, J, rfl⟩ := hin
    clear q
    obtain ⟨rfl, g1, g2, g3, g4, g5, q⟩ := hinv
    simp -implicitDefEqProofs only [syms, symx, seval, c61]
    refine forkD (fun hij => ?_) (fun hij => ?_)
    rotate_left
    · have hij2 : i = j := by omega
      subst hij2
      have hl0 := g4
      have hr0 := g5
      have hwi : IntKind.i64.wrap ((i : Int) - 1) = ((i - 1 : Nat) : Int) := by rw [wrap_i64 (by omega) (by omega)]; omega
      have ham1 : m = a + 1 := by omega
      subst ham1
      simp -implicitDefEqProofs only [syms, symx, seval, c61]
      obtain ⟨I2, hI2⟩ : ∃ I : Nat → Env → Heap → Prop, I = (fun n e h' => ∃ (k : Nat) (l1 : List AtomD) (h1 : Heap), h' = h1.lay [] h1.low ∧ Ext h h1 ∧ (n = i - 1 - k ∧ a ≤ k ∧ k ≤ i - 1 ∧ Mv l l1 a b ∧ UpTo l l1 a k ∧ Holds h1 A (.row (rowA l1) 36 false)) ∧ ∃ J : Nat → Value, e = (.slice (some ⟨A, 0, none⟩) l.length c :: jr J 1 9 (.int .i64 i :: jr J 11 2 (.int .i64 k :: jr J 14 206 ([]))))) := ⟨_, rfl⟩
      refine W_loopN I2 _ (by rw [hI2]; exact ⟨a, l, _, rfl, z, ⟨rfl, by omega, by omega, Mv.refl l a b, upTo_start l a, q⟩, junk (by kernel_rfl)⟩) ?_
      intro n e h' hin
      rw [hI2] at hin
      obtain ⟨k, l1, h2', rfl, z, hinv, J, rfl⟩ := hin
      clear q
      obtain ⟨rfl, f1, f2, f3, f4, q⟩ := hinv
      have hl1 := f3.perm.length_eq
      have hwk : IntKind.i64.wrap ((k : Int) + 1) = ((k + 1 : Nat) : Int) := by rw [wrap_i64 (by omega) (by omega)]; omega
      simp -implicitDefEqProofs only [syms, symx, seval, c61, hwi]
      refine forkD (fun hki => ?_) (fun hki => ?_)
      rotate_left
      · have hki2 : k = i - 1 := by omega
        subst hki2
        repeat' ( simp -implicitDefEqProofs only [syms, symx, seval, c61])
        exact hk _ _ (z.upW _ _ (by omega)) (q.on _ _) f3 (insLeft h2 (by omega) (by omega) hl0 hr0 f4)
      have hin : (0 : Int) ≤ (k : Int) ∧ (k : Int) < (l.length : Int) := by omega
      have hin1 : (0 : Int) ≤ ((k + 1 : Nat) : Int) ∧ ((k + 1 : Nat) : Int) < (l.length : Int) := by omega
      have hld := fun (bs : List Blk) (w : Nat) => load_atom (bs := bs) (w := w) q (getD_at (l := l1) (i := k) (by omega))
      have hld1 := fun (bs : List Blk) (w : Nat) => load_atom (bs := bs) (w := w) q (getD_at (l := l1) (i := k + 1) (by omega))
      simp -implicitDefEqProofs only [syms, symx, seval, c61]
      refine (drawN (by simp only [c61])) (z.upW _ _ (by omega)) ?_
      repeat' ( simp -implicitDefEqProofs only [syms, symx, seval, c61, hwk, hin, hin1, and_self, if_true, ↓hld, ↓hld1, valE_atom])
      have hz := z.size
      refine store_atom q sz36 (by omega) (fun h3 q3 c3 => ?_)
      refine KOpsX_chg (A := A) (by kernel_rfl) (by rw [lay_size]; omega) (by omega) (by simpa only [lay_lay, lay_size, List.append_nil, List.length_cons, List.length_nil, Nat.add_zero] using c3) ?_
      replace z := (z.upW [] (h2'.size + 0) (by omega)).step c3 hA
      rw [lay_nil h3]
      clear q hld hld1
      repeat' ( simp -implicitDefEqProofs only [syms, symx, seval, c61, hwk, hin, hin1, and_self, if_true])
      refine store_atom q3 sz36 (by rw [List.length_set]; omega) (fun h4 q4 c4 => ?_)
      have hz := z.size
      refine KOpsX_chg (A := A) (by kernel_rfl) (by rw [lay_size]; omega) (by omega) (by simpa only [lay_lay, lay_size, List.append_nil, List.length_cons, List.length_nil, Nat.add_zero] using c4) ?_
      replace z := (z.upW [] (h3.size + 0) (by omega)).step c4 hA
      rw [lay_nil h4]
      clear q3
      repeat' (first | simp -implicitDefEqProofs only [syms, symx, seval, c61] | ((with_reducible refine ⟨z.grw.lay _ _, ?_⟩); (intro _ h' zz x _); (try simp only [lay_lay, List.append_nil] at x); (try replace q4 := q4.over x); (replace z := zz); (clear zz); rw [lay_nil h']))
      rw [hwk]
      replace q4 : Holds _ A (.row (rowA (swapL l1 k (k + 1))) 36 false) := q4
      (rw [hI2]; with_reducible refine loopN_normal (m := _) ?_ ⟨k + 1, swapL l1 k (k + 1), _, rfl, z, ⟨rfl, by omega, by omega, f3.trans (Mv.swap (by omega) (by omega) (by omega) (stab_up (by omega) (up_strict h2 g3 hl0 f1 (by omega) f4))), upTo_step f4 f1 (by omega), q4⟩, junk (by kernel_rfl)⟩; omega)
    obtain ⟨e1, e2, e3, e4⟩ := half_u64 i j (by omega)
    repeat' ( simp -implicitDefEqProofs only [syms, symx, seval, c61, e1])
    rw [w_conv rfl rfl rfl (pure_iu _) rfl, e2]
    simp -implicitDefEqProofs only [syms, symx, seval, c61, e1]
    rw [bin_shr (by decide), e4]
    simp -implicitDefEqProofs only [syms, symx, seval, c61, e1]
    rw [w_conv rfl rfl rfl (pure_ui _) rfl, e3]
    repeat' ( simp -implicitDefEqProofs only [syms, symx, seval, c61, e1])
    have hhm : i ≤ (i + j) / 2 ∧ (i + j) / 2 < j := by omega
    have hwh : IntKind.i64.wrap ((((i + j) / 2 : Nat) : Int) + 1) = (((i + j) / 2 + 1 : Nat) : Int) := by rw [wrap_i64 (by omega) (by omega)]; omega
    generalize (i + j) / 2 = y at hhm hwh ⊢
    have hin : (0 : Int) ≤ (y : Int) ∧ (y : Int) < (l.length : Int) := by omega
    have hin1 : (0 : Int) ≤ (a : Int) ∧ (a : Int) < (l.length : Int) := by omega
    have hld := fun (bs : List Blk) (w : Nat) => load_atom (bs := bs) (w := w) q (getD_at (l := l) (i := y) (by omega))
    have hld1 := fun (bs : List Blk) (w : Nat) => load_atom (bs := bs) (w := w) q (getD_at (l := l) (i := a) (by omega))
    refine (drawN (by simp only [c61])) (z.upW _ _ (by omega)) ?_
    repeat' ( simp -implicitDefEqProofs only [syms, symx, seval, c61, hin, hin1, and_self, if_true, ↓hld, ↓hld1, valE_atom])
    refine ok_cmp _ _ (light_getD hlt (by omega)) (light_getD hlt (by omega)) _ _ (fun h' x => ?_)
    (( ((with_reducible refine KOpsX_call ?_ ?_ ?_); (· exact (by (try simp only [lsz]); have := z.size; omega)); (·  exact x )) ); replace z := z.overW x (by (try simp only [lsz]); omega); (try replace q := q.over x); rw [lay_nil h'])
    simp -implicitDefEqProofs only [syms, symx, seval, c61]
    refine forkD (fun hc => ?_) (fun hc => ?_)
    · repeat' (first | simp -implicitDefEqProofs only [syms, symx, seval, c61] | ((with_reducible refine ⟨z.grw.lay _ _, ?_⟩); (intro _ h' zz x _); (try simp only [lay_lay, List.append_nil] at x); (try replace q := q.over x); (replace z := zz); (clear zz); rw [lay_nil h']))
      rw [hwh]
      (rw [hI1]; with_reducible refine loopN_normal (m := _) ?_ ⟨y + 1, j, _, rfl, z, ⟨rfl, by omega, by omega, by omega, .inr (by rw [Nat.add_sub_cancel]; exact hc), g5, q⟩, junk (by kernel_rfl)⟩; omega)
    · repeat' (first | simp -implicitDefEqProofs only [syms, symx, seval, c61] | ((with_reducible refine ⟨z.grw.lay _ _, ?_⟩); (intro _ h' zz x _); (try simp only [lay_lay, List.append_nil] at x); (try replace q := q.over x); (replace z := zz); (clear zz); rw [lay_nil h']))
      (rw [hI1]; with_reducible refine loopN_normal (m := _) ?_ ⟨i, y, _, rfl, z, ⟨rfl, by omega, by omega, by omega, g4, .inr hc, q⟩, junk (by kernel_rfl)⟩; omega)
  simp -implicitDefEqProofs only [syms, symx, seval, c61, hw2]
  refine forkB (fun hone2 => ?_) (fun hone2 => ?_)
  · -- Am.one element behind
    simp -implicitDefEqProofs only [syms, symx, seval, c61]
    obtain ⟨I3, hI3⟩ : ∃ I : Nat → Env → Heap → Prop, I = (fun n e h' => ∃ (i j : Nat) (h1 : Heap), h' = h1.lay [] h1.low ∧ Ext h h1 ∧ (n = j - i ∧ a ≤ i ∧ i ≤ j ∧ j ≤ m ∧ (i = a ∨ ¬ cmpD (l.getD m noAtomD) (l.getD (i - 1) noAtomD) < 0) ∧ (j = m ∨ cmpD (l.getD m noAtomD) (l.getD j noAtomD) < 0) ∧ Holds h1 A (.row (rowA l) 36 false)) ∧ ∃ J : Nat → Value, e = (.slice (some ⟨A, 0, none⟩) l.length c :: .int .i64 a :: .int .i64 m :: .int .i64 b :: .func (.func 29) ⟨[]⟩ ⟨[]⟩ :: jr J 5 9 (.int .i64 i :: .int .i64 j :: jr J 16 204 ([])))) := ⟨_, rfl⟩
    refine W_loopN I3 _ (by rw [hI3]; exact ⟨a, m, _, rfl, z, ⟨rfl, by omega, by omega, by omega, .inl rfl, .inl rfl, q⟩, junk (by kernel_rfl)⟩) ?_
    intro n e h' hin
    rw [hI3] at hin
    obtain ⟨i, j, h1', rfl, z, hinv, J, rfl⟩ := hin
    clear q
    obtain ⟨rfl, g1, g2, g3, g4, g5, q⟩ := hinv
    simp -implicitDefEqProofs only [syms, symx, seval, c61]
    refine forkD (fun hij => ?_) (fun hij => ?_)
    rotate_left
    · have hij2 : i = j := by omega
      subst hij2
      have hl0 := g4
      have hr0 := g5
      have hbm1 : b = m + 1 := by omega
      subst hbm1
      simp -implicitDefEqProofs only [syms, symx, seval, c61]
      obtain ⟨I4, hI4⟩ : ∃ I : Nat → Env → Heap → Prop, I = (fun n e h' => ∃ (k : Nat) (l1 : List AtomD) (h1 : Heap), h' = h1.lay [] h1.low ∧ Ext h h1 ∧ (n = k - i ∧ i ≤ k ∧ k ≤ m ∧ Mv l l1 a (m + 1) ∧ DownTo l l1 m k ∧ Holds h1 A (.row (rowA l1) 36 false)) ∧ ∃ J : Nat → Value, e = (.slice (some ⟨A, 0, none⟩) l.length c :: jr J 1 13 (.int .i64 i :: jr J 15 2 (.int .i64 k :: jr J 18 202 ([]))))) := ⟨_, rfl⟩
      refine W_loopN I4 _ (by rw [hI4]; exact ⟨m, l, _, rfl, z, ⟨rfl, by omega, by omega, Mv.refl l a _, downTo_start l m, q⟩, junk (by kernel_rfl)⟩) ?_
      intro n e h' hin
      rw [hI4] at hin
      obtain ⟨k, l1, h2', rfl, z, hinv, J, rfl⟩ := hin
      clear q
      obtain ⟨rfl, f1, f2, f3, f4, q⟩ := hinv
      have hl1 := f3.perm.length_eq
      simp -implicitDefEqProofs only [syms, symx, seval, c61]
      refine forkD (fun hki => ?_) (fun hki => ?_)
      rotate_left
      · have hki2 : k = i := by omega
        subst hki2
        repeat' ( simp -implicitDefEqProofs only [syms, symx, seval, c61])
        exact hk _ _ (z.upW _ _ (by omega)) (q.on _ _) f3 (insRight h1 (by omega) (by omega) hl0 hr0 f4)
      have hwk : IntKind.i64.wrap ((k : Int) - 1) = ((k - 1 : Nat) : Int) := by rw [wrap_i64 (by omega) (by omega)]; omega
      have hin : (0 : Int) ≤ (k : Int) ∧ (k : Int) < (l.length : Int) := by omega
      have hin1 : (0 : Int) ≤ ((k - 1 : Nat) : Int) ∧ ((k - 1 : Nat) : Int) < (l.length : Int) := by omega
      have hld := fun (bs : List Blk) (w : Nat) => load_atom (bs := bs) (w := w) q (getD_at (l := l1) (i := k) (by omega))
      have hld1 := fun (bs : List Blk) (w : Nat) => load_atom (bs := bs) (w := w) q (getD_at (l := l1) (i := k - 1) (by omega))
      simp -implicitDefEqProofs only [syms, symx, seval, c61]
      refine (drawN (by simp only [c61])) (z.upW _ _ (by omega)) ?_
      repeat' ( simp -implicitDefEqProofs only [syms, symx, seval, c61, hwk, hin, hin1, and_self, if_true, ↓hld, ↓hld1, valE_atom])
      have hz := z.size
      refine store_atom q sz36 (by omega) (fun h3 q3 c3 => ?_)
      refine KOpsX_chg (A := A) (by kernel_rfl) (by rw [lay_size]; omega) (by omega) (by simpa only [lay_lay, lay_size, List.append_nil, List.length_cons, List.length_nil, Nat.add_zero] using c3) ?_
      replace z := (z.upW [] (h2'.size + 0) (by omega)).step c3 hA
      rw [lay_nil h3]
      clear q hld hld1
      repeat' ( simp -implicitDefEqProofs only [syms, symx, seval, c61, hwk, hin, hin1, and_self, if_true])
      refine store_atom q3 sz36 (by rw [List.length_set]; omega) (fun h4 q4 c4 => ?_)
      have hz := z.size
      refine KOpsX_chg (A := A) (by kernel_rfl) (by rw [lay_size]; omega) (by omega) (by simpa only [lay_lay, lay_size, List.append_nil, List.length_cons, List.length_nil, Nat.add_zero] using c4) ?_
      replace z := (z.upW [] (h3.size + 0) (by omega)).step c4 hA
      rw [lay_nil h4]
      clear q3
      repeat' (first | simp -implicitDefEqProofs only [syms, symx, seval, c61] | ((with_reducible refine ⟨z.grw.lay _ _, ?_⟩); (intro _ h' zz x _); (try simp only [lay_lay, List.append_nil] at x); (try replace q4 := q4.over x); (replace z := zz); (clear zz); rw [lay_nil h']))
      rw [hwk]
      replace q4 : Holds _ A (.row (rowA (swapL l1 k (k - 1))) 36 false) := q4
      (rw [hI4]; with_reducible refine loopN_normal (m := _) ?_ ⟨k - 1, swapL l1 k (k - 1), _, rfl, z, ⟨rfl, by omega, by omega, f3.trans (Mv.swap (by omega) (by omega) (by omega) (stab_down (by omega) (by omega) (down_strict h1 g1 hr0 (by omega) f2 f4))), downTo_step f4 (by omega) f2 (by omega), q4⟩, junk (by kernel_rfl)⟩; omega)
    obtain ⟨e1, e2, e3, e4⟩ := half_u64 i j (by omega)
    repeat' ( simp -implicitDefEqProofs only [syms, symx, seval, c61, e1])
    rw [w_conv rfl rfl rfl (pure_iu _) rfl, e2]
    simp -implicitDefEqProofs only [syms, symx, seval, c61, e1]
    rw [bin_shr (by decide), e4]
    simp -implicitDefEqProofs only [syms, symx, seval, c61, e1]
    rw [w_conv rfl rfl rfl (pure_ui _) rfl, e3]
    repeat' ( simp -implicitDefEqProofs only [syms, symx, seval, c61, e1])
    have hhm : i ≤ (i + j) / 2 ∧ (i + j) / 2 < j := by omega
    have hwh : IntKind.i64.wrap ((((i + j) / 2 : Nat) : Int) + 1) = (((i + j) / 2 + 1 : Nat) : Int) := by rw [wrap_i64 (by omega) (by omega)]; omega
    generalize (i + j) / 2 = y at hhm hwh ⊢
    have hin : (0 : Int) ≤ (y : Int) ∧ (y : Int) < (l.length : Int) := by omega
    have hin1 : (0 : Int) ≤ (m : Int) ∧ (m : Int) < (l.length : Int) := by omega
    have hld := fun (bs : List Blk) (w : Nat) => load_atom (bs := bs) (w := w) q (getD_at (l := l) (i := y) (by omega))
    have hld1 := fun (bs : List Blk) (w : Nat) => load_atom (bs := bs) (w := w) q (getD_at (l := l) (i := m) (by omega))
    refine (drawN (by simp only [c61])) (z.upW _ _ (by omega)) ?_
    repeat' ( simp -implicitDefEqProofs only [syms, symx, seval, c61, hin, hin1, and_self, if_true, ↓hld, ↓hld1, valE_atom])
    refine ok_cmp _ _ (light_getD hlt (by omega)) (light_getD hlt (by omega)) _ _ (fun h' x => ?_)
    (( ((with_reducible refine KOpsX_call ?_ ?_ ?_); (· exact (by (try simp only [lsz]); have := z.size; omega)); (·  exact x )) ); replace z := z.overW x (by (try simp only [lsz]); omega); (try replace q := q.over x); rw [lay_nil h'])
    simp -implicitDefEqProofs only [syms, symx, seval, c61]
    refine forkD (fun hc => ?_) (fun hc => ?_)
    · repeat' (first | simp -implicitDefEqProofs only [syms, symx, seval, c61] | ((with_reducible_and_instances apply unop_not); (· rfl)) | ((with_reducible refine ⟨z.grw.lay _ _, ?_⟩); (intro _ h' zz x _); (try simp only [lay_lay, List.append_nil] at x); (try replace q := q.over x); (replace z := zz); (clear zz); rw [lay_nil h']))
      (rw [hI3]; with_reducible refine loopN_normal (m := _) ?_ ⟨i, y, _, rfl, z, ⟨rfl, by omega, by omega, by omega, g4, .inr hc, q⟩, junk (by kernel_rfl)⟩; omega)
    · repeat' (first | simp -implicitDefEqProofs only [syms, symx, seval, c61] | ((with_reducible_and_instances apply unop_not); (· rfl)) | ((with_reducible refine ⟨z.grw.lay _ _, ?_⟩); (intro _ h' zz x _); (try simp only [lay_lay, List.append_nil] at x); (try replace q := q.over x); (replace z := zz); (clear zz); rw [lay_nil h']))
      rw [hwh]
      (rw [hI3]; with_reducible refine loopN_normal (m := _) ?_ ⟨y + 1, j, _, rfl, z, ⟨rfl, by omega, by omega, by omega, .inr (by rw [Nat.add_sub_cancel]; exact hc), g5, q⟩, junk (by kernel_rfl)⟩; omega)
  -- both parts longer
  obtain ⟨e1, e2, e3, e4⟩ := half_u64 a b (by omega)
  repeat' ( simp -implicitDefEqProofs only [syms, symx, seval, c61, e1])
  rw [w_conv rfl rfl rfl (pure_iu _) rfl, e2]
  simp -implicitDefEqProofs only [syms, symx, seval, c61, e1]
  rw [bin_shr (by decide), e4]
  simp -implicitDefEqProofs only [syms, symx, seval, c61, e1]
  rw [w_conv rfl rfl rfl (pure_ui _) rfl, e3]
  have hm1 : 2 * ((a + b) / 2) ≤ a + b := by omega
  have hm2 : a + b ≤ 2 * ((a + b) / 2) + 1 := by omega
  generalize (a + b) / 2 = mid at hm1 hm2 ⊢
  have hwn : IntKind.i64.wrap ((mid : Int) + (m : Int)) = ((mid + m : Nat) : Int) := by rw [wrap_i64 (by omega) (by omega)]; omega
  have hwp : IntKind.i64.wrap (((mid + m : Nat) : Int) - 1) = ((mid + m - 1 : Nat) : Int) := by rw [wrap_i64 (by omega) (by omega)]; omega
  have hwb : mid < m → IntKind.i64.wrap (((mid + m : Nat) : Int) - (b : Int)) = ((mid + m - b : Nat) : Int) := fun _ => by rw [wrap_i64 (by omega) (by omega)]; omega
  simp -implicitDefEqProofs only [syms, symx, seval, c61, hwn]
  refine forkD (fun hgm => ?_) (fun hgm => ?_)
  focus
    have hwb := hwb (by omega)
    simp -implicitDefEqProofs only [syms, symx, seval, c61, hwn, hwb, hwp]
    have hinit := symInv_b (l := l) (a := a) hmb (show mid < m by omega)
  rotate_left
  focus
    simp -implicitDefEqProofs only [syms, symx, seval, c61, hwn, hwp]
    have hinit := symInv_a (l := l) (b := b) ham (show m ≤ mid by omega)
  all_goals
    obtain ⟨I5, hI5⟩ : ∃ I : Nat → Env → Heap → Prop, I = (fun n e h' => ∃ (s r : Nat) (h1 : Heap), h' = h1.lay [] h1.low ∧ Ext h h1 ∧ (n = r - s ∧ SymInv l a m b mid s r ∧ Holds h1 A (.row (rowA l) 36 false)) ∧ ∃ J : Nat → Value, e = (.slice (some ⟨A, 0, none⟩) l.length c :: .int .i64 a :: .int .i64 m :: .int .i64 b :: .func (.func 29) ⟨[]⟩ ⟨[]⟩ :: jr J 5 13 (.int .i64 mid :: .int .i64 ((mid + m : Nat) : Int) :: .int .i64 s :: .int .i64 r :: .int .i64 ((mid + m - 1 : Nat) : Int) :: jr J 23 197 ([])))) := ⟨_, rfl⟩
    refine W_loopN I5 _ (by rw [hI5]; exact ⟨_, _, _, rfl, z, ⟨rfl, hinit, q⟩, junk (by kernel_rfl)⟩) ?_
    intro n e h' hin
    rw [hI5] at hin
    obtain ⟨s, r, h1', rfl, z, hinv, J, rfl⟩ := hin
    clear q hinit
    obtain ⟨rfl, hinv, q⟩ := hinv
    simp -implicitDefEqProofs only [syms, symx, seval, c61]
    refine forkD (fun hsr => ?_) (fun hsr => ?_)
    rotate_left
    · have hsr2 : s = r := by have := hinv.sr; omega
      subst hsr2
      have sp := symInv_end hinv ham hmb hm1 hm2
      obtain ⟨p1, p2, p3, p4, p5, _, _⟩ := sp
      have sp := symInv_end hinv ham hmb hm1 hm2
      have hwe : IntKind.i64.wrap (((mid + m : Nat) : Int) - (s : Int)) = ((mid + m - s : Nat) : Int) := by rw [wrap_i64 (by omega) (by omega)]; omega
      simp -implicitDefEqProofs only [syms, symx, seval, nilK (rops (N61 107)) 3 rfl, condK (N61 108) (N61 109) (N61 110) rfl, exitK (N61 110) rfl]
      rw [seqK (N61 119) (N61 120) (N61 121) rfl]
      obtain ⟨R6, hR6⟩ : ∃ R : Env → Heap → Prop, R = (fun e h' => ∃ (h1 : Heap), h' = h1.lay [] h1.low ∧ Ext h h1 ∧ (Holds h1 A (.row (rowA l) 36 false)) ∧ ∃ J : Nat → Value, e = (.slice (some ⟨A, 0, none⟩) l.length c :: .int .i64 a :: .int .i64 m :: .int .i64 b :: .func (.func 29) ⟨[]⟩ ⟨[]⟩ :: jr J 5 13 (.int .i64 mid :: J 19 :: .int .i64 s :: jr J 21 3 (.int .i64 ((mid + m - s : Nat) : Int) :: jr J 25 195 ([])))) ∧ True) := ⟨_, rfl⟩
      refine W_cut R6 ?cut ?rest
      case' rest =>
        intro e h' hin
        rw [hR6] at hin
        obtain ⟨h2', rfl, z, hinv, J, rfl, _⟩ := hin
      case cut =>
        simp -implicitDefEqProofs only [syms, symx, seval, c61, hwe]
        (( skip); rw [hR6]; exact ⟨_, rfl, z, q, junk2 (by kernel_rfl) (trivial)⟩)
      case rest =>
      have q := hinv
      simp -implicitDefEqProofs only [syms, symx, seval]
      rw [seqK (N61 121) (N61 122) (N61 127) rfl]
      obtain ⟨R7, hR7⟩ : ∃ R : Env → Heap → Prop, R = (fun e h' => ∃ (l1 : List AtomD) (h1 : Heap), h' = h1.lay [] h1.low ∧ Ext h h1 ∧ (Mv l l1 s (mid + m - s) ∧ TurnS l l1 s m (mid + m - s) ∧ Holds h1 A (.row (rowA l1) 36 false)) ∧ ∃ J : Nat → Value, e = (.slice (some ⟨A, 0, none⟩) l.length c :: .int .i64 a :: .int .i64 m :: .int .i64 b :: .func (.func 29) ⟨[]⟩ ⟨[]⟩ :: jr J 5 13 (.int .i64 mid :: J 19 :: .int .i64 s :: jr J 21 3 (.int .i64 ((mid + m - s : Nat) : Int) :: jr J 25 195 ([])))) ∧ True) := ⟨_, rfl⟩
      refine W_cut R7 ?cut ?rest
      case' rest =>
        intro e h' hin
        rw [hR7] at hin
        obtain ⟨l1, h3', rfl, z, hinv, J, rfl, _⟩ := hin
      case cut =>
        repeat' (first | simp -implicitDefEqProofs only [syms, symx, seval, c61] | ((with_reducible  apply forkD ) <;> intro _))
        all_goals first
          | (( skip); rw [hR7]; exact ⟨l, _, rfl, z, ⟨Mv.refl _ _ _, turnS_no (by omega) (by omega) (by omega), q⟩, junk2 (by kernel_rfl) (trivial)⟩)
          | (refine ok_rotate l A c s m (mid + m - s) _ h _ (z.upW _ _ (by omega)) hA (q.on _ _) (by omega) (by omega) (by omega) hn _ (fun h' x q1 hp1 => ?_)
             replace z := x
             rw [lay_nil h']
             simp -implicitDefEqProofs only [syms, symx, seval, c61]
             (( skip); rw [hR7]; exact ⟨turnL l s m (mid + m - s), _, rfl, z, ⟨turnS_mv (fun k => turnL_get (by omega) k) (by omega) (by omega) hp1 (split_stab h1 h2 sp (fun k => turnL_get (by omega) k) (by omega) hp1.length_eq), fun k => turnL_get (by omega) k, q1⟩, junk2 (by kernel_rfl) (trivial)⟩))
      case rest =>
      obtain ⟨mv1, t1, q⟩ := hinv
      obtain ⟨so1, so2, so3, so4⟩ := split_parts h1 h2 sp t1
      have hcr := fun (i j : Nat) (g1 : a ≤ i) (g2 : i < mid) (g3 : mid ≤ j) (g4 : j < b) => split_cross h1 h2 sp t1 g1 g2 g3 g4
      have hl1 := mv1.perm.length_eq
      simp -implicitDefEqProofs only [syms, symx, seval]
      rw [seqK (N61 127) (N61 128) (N61 133) rfl]
      obtain ⟨R8, hR8⟩ : ∃ R : Env → Heap → Prop, R = (fun e h' => ∃ (l2 : List AtomD) (h1 : Heap), h' = h1.lay [] h1.low ∧ Ext h h1 ∧ (Mv l1 l2 a mid ∧ SortedR l2 a mid ∧ Holds h1 A (.row (rowA l2) 36 false)) ∧ ∃ J : Nat → Value, e = (.slice (some ⟨A, 0, none⟩) l.length c :: .int .i64 a :: .int .i64 m :: .int .i64 b :: .func (.func 29) ⟨[]⟩ ⟨[]⟩ :: jr J 5 13 (.int .i64 mid :: J 19 :: .int .i64 s :: jr J 21 3 (.int .i64 ((mid + m - s : Nat) : Int) :: jr J 25 195 ([])))) ∧ True) := ⟨_, rfl⟩
      refine W_cut R8 ?cut ?rest
      case' rest =>
        intro e h' hin
        rw [hR8] at hin
        obtain ⟨l2, h4', rfl, z, hinv, J, rfl, _⟩ := hin
      case cut =>
        repeat' (first | simp -implicitDefEqProofs only [syms, symx, seval, c61] | ((with_reducible  apply forkD ) <;> intro _))
        all_goals first
          | (( skip); rw [hR8]; exact ⟨l1, _, rfl, z, ⟨Mv.refl _ _ _, (by first | (have e : s = mid := by omega); rw [← e]; exact so1 | (have e : a = s := by omega); rw [e]; exact so2), q⟩, junk2 (by kernel_rfl) (trivial)⟩)
          | (have key := ih l1 A c a s mid h (h3'.lay [] h3'.low) (z.upW _ _ (by omega)) hA (q.on _ _) (by omega) (by omega) (by omega) (by omega) (by omega) (light_perm hlt mv1.perm) so1 so2
             simp only [hl1] at key
             refine key _ (fun h' l2 x q1 mv2 so5 => ?_)
             replace z := x
             rw [lay_nil h']
             simp -implicitDefEqProofs only [syms, symx, seval, c61]
             (( skip); rw [hR8]; exact ⟨l2, _, rfl, z, ⟨mv2, so5, q1⟩, junk2 (by kernel_rfl) (trivial)⟩))
      case rest =>
      obtain ⟨mv2, so5, q⟩ := hinv
      have hl2 := mv2.perm.length_eq
      have so6 := sortedR_same so3 (fun k g1 g2 => mv2.out k (.inr g1))
      have so7 := sortedR_same so4 (fun k g1 g2 => mv2.out k (.inr (by omega)))
      have mvT := (mv1.widen p1 p5).trans (mv2.widen (Nat.le_refl _) (show mid ≤ b by omega))
      repeat' (first | simp -implicitDefEqProofs only [syms, symx, seval, c61] | ((with_reducible  apply forkD ) <;> intro _))
      all_goals first
        | exact hk _ l2 (z.upW _ _ (by omega)) (q.on _ _) mvT (merge_end hcr mv2 (Mv.refl l2 mid b) so5 (by first | (have e : mid = mid + m - s := by omega); rw [e]; exact so7 | (have e : mid + m - s = b := by omega); rw [← e]; exact so6))
        | (have key := ih l2 A c mid (mid + m - s) b h (h4'.lay [] h4'.low) (z.upW _ _ (by omega)) hA (q.on _ _) (by omega) (by omega) (by omega) (by omega) (by omega) (light_perm (light_perm hlt mv1.perm) mv2.perm) so6 so7
           simp only [hl2, hl1] at key
           refine key _ (fun h' l3 x q1 mv3 so8 => ?_)
           rw [lay_nil h']
           repeat' ( simp -implicitDefEqProofs only [syms, symx, seval, c61])
           exact hk _ l3 (x.upW _ _ (by omega)) (q1.on _ _) (mvT.trans (mv3.widen (show a ≤ mid by omega) (Nat.le_refl _))) (merge_end hcr mv2 mv3 so5 so8))
    have hrl : r ≤ l.length := by
      rcases Nat.lt_or_ge mid m with g | g
      · have := hinv.le2 g; omega
      · have := hinv.le1 g; omega
    obtain ⟨e1, e2, e3, e4⟩ := half_u64 s r (by omega)
    repeat' ( simp -implicitDefEqProofs only [syms, symx, seval, c61, e1])
    rw [w_conv rfl rfl rfl (pure_iu _) rfl, e2]
    simp -implicitDefEqProofs only [syms, symx, seval, c61, e1]
    rw [bin_shr (by decide), e4]
    simp -implicitDefEqProofs only [syms, symx, seval, c61, e1]
    rw [w_conv rfl rfl rfl (pure_ui _) rfl, e3]
    repeat' ( simp -implicitDefEqProofs only [syms, symx, seval, c61, e1])
    have hhm : s ≤ (s + r) / 2 ∧ (s + r) / 2 < r := by omega
    have hwh : IntKind.i64.wrap ((((s + r) / 2 : Nat) : Int) + 1) = (((s + r) / 2 + 1 : Nat) : Int) := by rw [wrap_i64 (by omega) (by omega)]; omega
    generalize (s + r) / 2 = y at hhm hwh ⊢
    have hix := symInv_ix hinv hhm.1 hhm.2 ham hmb hm1 hm2
    have hwpc : IntKind.i64.wrap (((mid + m - 1 : Nat) : Int) - (y : Int)) = ((mid + m - 1 - y : Nat) : Int) := by rw [wrap_i64 (by omega) (by omega)]; omega
    have hin : (0 : Int) ≤ (y : Int) ∧ (y : Int) < (l.length : Int) := by omega
    have hin1 : (0 : Int) ≤ ((mid + m - 1 - y : Nat) : Int) ∧ ((mid + m - 1 - y : Nat) : Int) < (l.length : Int) := by omega
    have hld := fun (bs : List Blk) (w : Nat) => load_atom (bs := bs) (w := w) q (getD_at (l := l) (i := y) (by omega))
    have hld1 := fun (bs : List Blk) (w : Nat) => load_atom (bs := bs) (w := w) q (getD_at (l := l) (i := mid + m - 1 - y) (by omega))
    refine (drawN (by simp only [c61])) (z.upW _ _ (by omega)) ?_
    repeat' ( simp -implicitDefEqProofs only [syms, symx, seval, c61, hwpc, hin, hin1, and_self, if_true, ↓hld, ↓hld1, valE_atom])
    refine ok_cmp _ _ (light_getD hlt (by omega)) (light_getD hlt (by omega)) _ _ (fun h' x => ?_)
    (( ((with_reducible refine KOpsX_call ?_ ?_ ?_); (· exact (by (try simp only [lsz]); have := z.size; omega)); (·  exact x )) ); replace z := z.overW x (by (try simp only [lsz]); omega); (try replace q := q.over x); rw [lay_nil h'])
    simp -implicitDefEqProofs only [syms, symx, seval, c61]
    refine forkD (fun hc => ?_) (fun hc => ?_)
    · repeat' (first | simp -implicitDefEqProofs only [syms, symx, seval, c61] | ((with_reducible_and_instances apply unop_not); (· rfl)) | ((with_reducible refine ⟨z.grw.lay _ _, ?_⟩); (intro _ h' zz x _); (try simp only [lay_lay, List.append_nil] at x); (try replace q := q.over x); (replace z := zz); (clear zz); rw [lay_nil h']))
      (rw [hI5]; with_reducible refine loopN_normal (m := _) ?_ ⟨s, y, _, rfl, z, ⟨rfl, symInv_down hinv hhm.1 hhm.2 hc, q⟩, junk (by kernel_rfl)⟩; omega)
    · repeat' (first | simp -implicitDefEqProofs only [syms, symx, seval, c61] | ((with_reducible_and_instances apply unop_not); (· rfl)) | ((with_reducible refine ⟨z.grw.lay _ _, ?_⟩); (intro _ h' zz x _); (try simp only [lay_lay, List.append_nil] at x); (try replace q := q.over x); (replace z := zz); (clear zz); rw [lay_nil h']))
      rw [hwh]
      (rw [hI5]; with_reducible refine loopN_normal (m := _) ?_ ⟨y + 1, r, _, rfl, z, ⟨rfl, symInv_up hinv hhm.1 hhm.2 hc, q⟩, junk (by kernel_rfl)⟩; omega)
theorem symOk : ∀ sz, SymOk sz
  | 0 => by intro l A c a m b h hs z hA q h1 h2 h3; omega
  | sz + 1 => ok_symStep sz (symOk sz)
theorem ok_stable (l : List AtomD) (A c : Nat) (h hs : Heap) (z : Ext h hs) (hA : h.size ≤ A) (q : Holds hs A (.row (rowA l) 36 false)) (hn : l.length ≤ 100000) (hlt : ∀ x ∈ l, x.light = true) (K : Value → Heap → Prop)
    (hk : ∀ h' l', Ext h h' → Holds h' A (.row (rowA l') 36 false) → l'.Perm l → Stab l l' → SortedR l' 0 l.length → K undef h') : Ok Tryd.prog tab ov 42 [.slice (some ⟨A, 0, none⟩) l.length c, .int .i64 l.length, .func (.func 29) ⟨[]⟩ ⟨[]⟩] hs K := by
  rw [lay_nil hs]
  refine Ok.into rfl tab_fn42 (bodyF N42) rfl (m := 60) rfl ?_
  simp -implicitDefEqProofs only [syms, symx, seval, c42]
  obtain ⟨I1, hI1⟩ : ∃ I : Nat → Env → Heap → Prop, I = (fun n e h' => ∃ (a : Nat) (l1 : List AtomD) (h1 : Heap), h' = h1.lay [] h1.low ∧ Ext h h1 ∧ (n = l.length - a ∧ a % 20 = 0 ∧ a ≤ l.length ∧ l1.Perm l ∧ Stab l l1 ∧ Bl l1 20 l.length a ∧ Holds h1 A (.row (rowA l1) 36 false)) ∧ ∃ J : Nat → Value, e = (.slice (some ⟨A, 0, none⟩) l.length c :: .int .i64 l.length :: .func (.func 29) ⟨[]⟩ ⟨[]⟩ :: jr J 3 3 (.int .i64 20 :: .int .i64 a :: .int .i64 (a + 20 : Nat) :: jr J 9 54 ([])))) := ⟨_, rfl⟩
  refine W_loopN I1 _ (by rw [hI1]; exact ⟨0, l, _, rfl, z, ⟨rfl, by omega, by omega, List.Perm.refl _, Stab.refl _, fun k _ hk => absurd hk (by omega), q⟩, junk (by kernel_rfl)⟩) ?_
  intro n e h' hin
  rw [hI1] at hin
  obtain ⟨a, l1, h1', rfl, z, hinv, J, rfl⟩ := hin
  clear q
  obtain ⟨rfl, ha20, han, hp, hst, hbl, q⟩ := hinv
  have hl1 := hp.length_eq
  have hlt1 := light_perm hlt hp
  simp -implicitDefEqProofs only [syms, symx, seval, c42]
  refine forkD (fun hle => ?_) (fun hle => ?_)
  · have hw1 : IntKind.i64.wrap (((a + 20 : Nat) : Int) + 20) = ((a + 20 + 20 : Nat) : Int) := by rw [wrap_i64 (by omega) (by omega)]; omega
    repeat' ( simp -implicitDefEqProofs only [syms, symx, seval, c42])
    have key := fun K hk => ok_insertion l1 A c a (a + 20) h (h1'.lay [] h1'.low) (z.upW _ _ (by omega)) hA (q.on _ _) (by omega) (by omega) (by omega) hlt1 K hk
    simp only [hl1] at key
    refine key _ (fun h' l' x q' hp' hst' hs' ho' => ?_)
    replace z := x
    rw [lay_nil h']
    repeat' ( simp -implicitDefEqProofs only [syms, symx, seval, c42, hw1])
    (rw [hI1]; with_reducible refine loopN_normal (m := _) ?_ ⟨a + 20, l', _, rfl, z, ⟨rfl, by omega, by omega, hp'.trans hp, hst.trans hst', bl_step hbl ha20 (by rw [show min (a + 20) l.length = a + 20 by omega]; exact hs') (by rw [show min (a + 20) l.length = a + 20 by omega]; exact ho') _ (by omega), q'⟩, junk (by kernel_rfl)⟩; omega)
  repeat' ( simp -implicitDefEqProofs only [syms, symx, seval, c42])
  have key := fun K hk => ok_insertion l1 A c a l.length h (h1'.lay [] h1'.low) (z.upW _ _ (by omega)) hA (q.on _ _) (by omega) (by omega) (by omega) hlt1 K hk
  simp only [hl1] at key
  refine key _ (fun h' l' x q' hp' hst' hs' ho' => ?_)
  replace z := x
  replace hp := hp'.trans hp
  replace hst := hst.trans hst'
  replace hbl : Bl l' 20 l.length l.length := bl_step hbl ha20 (by rw [show min (a + 20) l.length = l.length by omega]; exact hs') (by rw [show min (a + 20) l.length = l.length by omega]; exact ho') _ (by omega)
  clear key hs' ho' hp' hst' hl1 hlt1 q
  rw [lay_nil h']
  repeat' ( simp -implicitDefEqProofs only [syms, symx, seval, c42])
  obtain ⟨I2, hI2⟩ : ∃ I : Nat → Env → Heap → Prop, I = (fun n e h' => ∃ (w : Nat) (l1 : List AtomD) (h1 : Heap), h' = h1.lay [] h1.low ∧ Ext h h1 ∧ (n = l.length - w ∧ 20 ≤ w ∧ w ≤ 200000 ∧ l1.Perm l ∧ Stab l l1 ∧ Bl l1 w l.length l.length ∧ Holds h1 A (.row (rowA l1) 36 false)) ∧ ∃ J : Nat → Value, e = (.slice (some ⟨A, 0, none⟩) l.length c :: .int .i64 l.length :: .func (.func 29) ⟨[]⟩ ⟨[]⟩ :: jr J 3 3 (.int .i64 w :: jr J 7 56 ([])))) := ⟨_, rfl⟩
  refine W_loopN I2 _ (by rw [hI2]; exact ⟨20, l', _, rfl, z, ⟨rfl, by omega, by omega, hp, hst, hbl, q'⟩, junk (by kernel_rfl)⟩) ?_
  intro n e h' hin
  rw [hI2] at hin
  obtain ⟨w, l1, h2', rfl, z, hinv, J, rfl⟩ := hin
  clear q' hbl hp hst
  obtain ⟨rfl, hw20, hw2k, hp, hst, hbl, q⟩ := hinv
  simp -implicitDefEqProofs only [syms, symx, seval, c42]
  refine forkD (fun hlt2 => ?_) (fun hlt2 => ?_)
  rotate_left
  · repeat' ( simp -implicitDefEqProofs only [syms, symx, seval, c42])
    exact hk _ _ (z.upW _ _ (by omega)) (q.on _ _) hp hst (bl_end hbl (by omega))
  have hm2 : IntKind.i64.wrap ((2 : Int) * (w : Int)) = ((2 * w : Nat) : Int) := by rw [wrap_i64 (by omega) (by omega)]; omega
  repeat' ( simp -implicitDefEqProofs only [syms, symx, seval, c42, hm2, bin_mul])
  obtain ⟨I3, hI3⟩ : ∃ I : Nat → Env → Heap → Prop, I = (fun n e h' => ∃ (a b : Nat) (l2 : List AtomD) (h1 : Heap), h' = h1.lay [] h1.low ∧ Ext h h1 ∧ (n = l.length - a ∧ b = a + 2 * w ∧ a % (2 * w) = 0 ∧ a ≤ l.length ∧ l2.Perm l ∧ Stab l l2 ∧ Dbl l2 w l.length a ∧ Holds h1 A (.row (rowA l2) 36 false)) ∧ ∃ J : Nat → Value, e = (.slice (some ⟨A, 0, none⟩) l.length c :: .int .i64 l.length :: .func (.func 29) ⟨[]⟩ ⟨[]⟩ :: jr J 3 3 (.int .i64 w :: .int .i64 a :: .int .i64 b :: jr J 9 54 ([])))) := ⟨_, rfl⟩
  refine W_loopN I3 _ (by rw [hI3]; exact ⟨0, 2 * w, l1, _, rfl, z, ⟨rfl, by omega, Nat.zero_mod _, by omega, hp, hst, dbl_start hbl, q⟩, junk (by kernel_rfl)⟩) ?_
  intro n e h' hin
  rw [hI3] at hin
  obtain ⟨a, b, l2, h3', rfl, z, hinv, J, rfl⟩ := hin
  clear q hbl hp hst
  obtain ⟨rfl, hb, hamod, han, hp, hst, hdb, q⟩ := hinv
  have hl2 := hp.length_eq
  have hlt3 := light_perm hlt hp
  have haw : IntKind.i64.wrap ((a : Int) + (w : Int)) = ((a + w : Nat) : Int) := by rw [wrap_i64 (by omega) (by omega)]; omega
  simp -implicitDefEqProofs only [syms, symx, seval, c42]
  refine forkD (fun hle => ?_) (fun hle => ?_)
  · have hbw : IntKind.i64.wrap ((b : Int) + ((2 * w : Nat) : Int)) = ((b + 2 * w : Nat) : Int) := by rw [wrap_i64 (by omega) (by omega)]; omega
    have hpa := dbl_parts hdb (by omega) hamod (by omega)
    rw [show min (a + 2 * w) l.length = b by omega] at hpa
    repeat' ( simp -implicitDefEqProofs only [syms, symx, seval, c42, haw])
    have key := fun K hk => symOk l.length l2 A c a (a + w) b h (h3'.lay [] h3'.low) (z.upW _ _ (by omega)) hA (q.on _ _) (by omega) (by omega) (by omega) (by omega) (by omega) hlt3 hpa.1 hpa.2 K hk
    simp only [hl2] at key
    refine key _ (fun h' l' x q' hm' hs' => ?_)
    replace z := x
    rw [lay_nil h']
    repeat' ( simp -implicitDefEqProofs only [syms, symx, seval, c42, hm2, bin_mul, hbw])
    have hstep := dbl_step (l' := l') hdb (by omega) hamod (by rw [show min (a + 2 * w) l.length = b by omega]; exact hs') (by rw [show min (a + 2 * w) l.length = b by omega]; exact hm')
    rw [show min (a + 2 * w) l.length = b by omega] at hstep
    (rw [hI3]; with_reducible refine loopN_normal (m := _) ?_ ⟨b, b + 2 * w, l', _, rfl, z, ⟨rfl, by omega, by rw [hb, Nat.add_mod_right]; exact hamod, by omega, hm'.perm.trans hp, hst.trans hm'.stab, hstep, q'⟩, junk (by kernel_rfl)⟩; omega)
  have hw2 : IntKind.i64.wrap ((w : Int) * (2 : Int)) = ((2 * w : Nat) : Int) := by rw [wrap_i64 (by omega) (by omega)]; omega
  repeat' (first | simp -implicitDefEqProofs only [syms, symx, seval, c42, haw] | ((with_reducible  apply forkD ) <;> intro _))
  · have hpa := dbl_parts hdb (by omega) hamod (by omega)
    rw [show min (a + 2 * w) l.length = l.length by omega] at hpa
    have key := fun K hk => symOk l.length l2 A c a (a + w) l.length h (h3'.lay [] h3'.low) (z.upW _ _ (by omega)) hA (q.on _ _) (by omega) (by omega) (by omega) (by omega) (by omega) hlt3 hpa.1 hpa.2 K hk
    simp only [hl2] at key
    refine key _ (fun h' l' x q' hm' hs' => ?_)
    replace z := x
    rw [lay_nil h']
    repeat' ( simp -implicitDefEqProofs only [syms, symx, seval, c42, hw2, bin_mul])
    have hstep := dbl_step (l' := l') hdb (by omega) hamod (by rw [show min (a + 2 * w) l.length = l.length by omega]; exact hs') (by rw [show min (a + 2 * w) l.length = l.length by omega]; exact hm')
    rw [show min (a + 2 * w) l.length = l.length by omega] at hstep
    (rw [hI2]; with_reducible refine loopN_normal (m := _) ?_ ⟨2 * w, l', _, rfl, z, ⟨rfl, by omega, by omega, hm'.perm.trans hp, hst.trans hm'.stab, dbl_all hstep (by omega), q'⟩, junk (by kernel_rfl)⟩; omega)
  · repeat' ( simp -implicitDefEqProofs only [syms, symx, seval, c42, hw2, bin_mul])
    (rw [hI2]; with_reducible refine loopN_normal (m := _) ?_ ⟨2 * w, l2, _, rfl, z, ⟨rfl, by omega, by omega, hp, hst, dbl_end hdb (by omega) hamod (by omega), q⟩, junk (by kernel_rfl)⟩; omega)
theorem ok_sortStable (l : List AtomD) (A c : Nat) (h hs : Heap) (z : Ext h hs) (hA : h.size ≤ A) (q : Holds hs A (.row (rowA l) 36 false)) (hn : l.length ≤ 100000) (hlt : ∀ x ∈ l, x.light = true) (K : Value → Heap → Prop)
    (hk : ∀ h' l', Ext h h' → Holds h' A (.row (rowA l') 36 false) → l'.Perm l → Stab l l' → SortedR l' 0 l.length → K undef h') : Ok Tryd.prog tab ov 28 [.slice (some ⟨A, 0, none⟩) l.length c, .func (.func 29) ⟨[]⟩ ⟨[]⟩] hs K := by
  rw [lay_nil hs]
  refine Ok.into rfl tab_fn28 (bodyF N28) rfl (m := 7) rfl ?_
  repeat' ( simp -implicitDefEqProofs only [syms, symx, seval, c28])
  refine ok_stable l A c h (hs.lay [] hs.low) (z.upW _ _ (by omega)) hA (q.on _ _) hn hlt _ (fun h' l' x q' hp' hst' hs' => ?_)
  rw [lay_nil h']
  repeat' ( simp -implicitDefEqProofs only [syms, symx, seval, c28])
  exact hk _ _ (x.upW _ _ (by omega)) (q'.on _ _) hp' hst' hs'
theorem nil_atom {h : Heap} {v : Value} {l : List AtomD} (f : Sl Rep.atom h v l) : ∃ b : Bool, binA Tryd.prog tab .eql 23 v (.slice none 0 0) = some (.bool b) ∧ (b = true → l = []) := by
  rcases f with ⟨rfl, rfl⟩ | ⟨A, o, c, row, u, ro, rfl, _⟩
  · exact ⟨true, by kernel_rfl, fun _ => rfl⟩
  · exact ⟨false, by kernel_rfl, nofun⟩
theorem ok_cloneA (l : List AtomD) (v : Value) (h : Heap) (hl : Sl Rep.atom h v l) (hs : l.length ≤ 100000) (K : Value → Heap → Prop)
    (hk : ∀ h' w, Ext h h' → OwnX h h' 36 w l → K w h') : Ok Tryd.prog tab ov 18 [v] h K := by
  rw [lay_nil h]
  obtain ⟨b, hb, hnil⟩ := nil_atom hl
  refine Ok.into rfl tab_fn18 (bodyF N18) rfl (m := 7) rfl ?_
  simp -implicitDefEqProofs only [syms, symx, seval, c18, hb]
  cases b
  · simp -implicitDefEqProofs only [syms, symx, seval, c18, w_append, sty23]
    obtain ⟨news, hs, hsr⟩ := src_sl (A := h.size + 1) (r := Rep.atom) (by decide) (hl.lay [.row [] 36 false] h.low) (fun cs y hr => hr)
    have f : Ow Rep.atom h (h.lay [.row [] 36 false] h.low) 36 (h.size + 1) (.slice (some ⟨h.size + 0, 0, none⟩) 0 0) [] :=
      .inl ⟨by omega, rfl, .inr ⟨h.size + 0, 0, rfl, by omega, by rw [lay_size]; simp, [], 36, false, by rw [lay_get]; rfl⟩⟩
    obtain ⟨w, h', A', e1, e2, e3, e4, e5⟩ := app_ow (t := 23) ds23 tab_info36 rfl (by decide) (by rw [lay_size]; omega) f hs hsr (by simp only [List.length_nil]; omega) (by simp only [List.length_nil]; omega)
    rw [e1]
    simp -implicitDefEqProofs only [syms, symx, seval, c18]
    exact hk _ _ ((Ext.refl h).stepW e3 (by omega) (by omega)) (own_of_ow (by simpa using e2))
  · simp -implicitDefEqProofs only [syms, symx, seval, c18]
    rw [hnil rfl] at hk
    exact hk _ _ ((Ext.refl h).upW _ _ (by omega)) (.inl ⟨rfl, Emp.nil⟩)
theorem ok_same (a b : AtomD) (ha : a.light = true) (hb : b.light = true) (h : Heap) (K : Value → Heap → Prop) (hk : ∀ h', Ext h h' → K (.bool (cmpD a b == 0)) h') : Ok Tryd.prog tab ov 31 [a.val, b.val] h K := by
  rw [lay_nil h]
  have z := Ext.refl h
  refine Ok.into rfl tab_fn31 (bodyF N31) rfl (m := 7) rfl ?_
  repeat' ( simp -implicitDefEqProofs only [syms, symx, seval, c31, cells_atom, ↓cut_atom, agg_atom, valE_atom])
  refine ok_cmp a b ha hb _ _ (fun h' x => ?_)
  ((skip); replace z := z.overW x (by (try simp only [lsz]); omega); rw [lay_nil h'])
  simp -implicitDefEqProofs only [syms, symx, seval, c31]
  refine forkB (fun hc => ?_) (fun hc => ?_)
  · repeat' ( simp -implicitDefEqProofs only [syms, symx, seval, c31])
    rw [show (cmpD a b == 0) = true by rw [hc]; rfl] at hk
    exact hk _ (z.upW _ _ (by omega))
  · repeat' ( simp -implicitDefEqProofs only [syms, symx, seval, c31])
    rw [show (cmpD a b == 0) = false by simpa using hc] at hk
    exact hk _ (z.upW _ _ (by omega))
theorem ok_compact (l : List AtomD) (A : Nat) (h hs : Heap) (z : Ext h hs) (hA : h.size ≤ A) (q : Holds hs A (.row (rowA l) 36 false)) (hn : l.length ≤ 100000) (hlt : ∀ x ∈ l, x.light = true) (K : Value → Heap → Prop)
    (hk : ∀ h' v, Ext h h' → OwnA h h' 36 v (uniqN l l.length) → K v h') : Ok Tryd.prog tab ov 30 [.slice (some ⟨A, 0, none⟩) l.length (G * 11 + l.length), .func (.func 31) ⟨[]⟩ ⟨[]⟩] hs K := by
  rw [lay_nil hs]
  have hbig : ∀ (x : Value) (hh : Heap) (K2 : Value → Heap → Prop), valE (some (.slice (some ⟨A, 0, none⟩) l.length (G * 11 + l.length))) hh K2 = K2 (.slice (some ⟨A, 0, none⟩) l.length (G * 11 + l.length)) hh := fun _ _ _ => rfl
  obtain ⟨C, hC⟩ : ∃ C, C = G * 11 + l.length := ⟨_, rfl⟩
  rw [← hC]
  refine Ok.into rfl tab_fn30 (bodyF N30) rfl (m := 64) rfl ?_
  repeat' (first | simp -implicitDefEqProofs only [syms, symx, seval, c30] | ((with_reducible  apply forkD ) <;> intro _))
  · have e := uniqN_small (l := l) (by omega)
    rw [e] at hk
    exact hk _ _ (z.upW _ _ (by omega)) (own_same (q.on _ _) hA (by omega) hC)
  have hu1 : uniqN l 1 = l.take 1 := by
    rw [take_snoc (m := 0) (by omega)]
    rfl
  obtain ⟨I1, hI1⟩ : ∃ I : Nat → Env → Heap → Prop, I = (fun n e h' => ∃ (k : Nat) (h1 : Heap), h' = h1.lay [] h1.low ∧ Ext h h1 ∧ (n = l.length - k ∧ 1 ≤ k ∧ k ≤ l.length ∧ uniqN l k = l.take k ∧ Holds h1 A (.row (rowA l) 36 false)) ∧ ∃ J : Nat → Value, e = (.slice (some ⟨A, 0, none⟩) l.length C :: .func (.func 31) ⟨[]⟩ ⟨[]⟩ :: jr J 2 3 (.int .i64 k :: jr J 6 60 ([])))) := ⟨_, rfl⟩
  refine W_loopN I1 _ (by rw [hI1]; exact ⟨1, _, rfl, z, ⟨rfl, by omega, by omega, hu1, q⟩, junk (by kernel_rfl)⟩) ?_
  intro n e h' hin
  rw [hI1] at hin
  obtain ⟨k, h1', rfl, z, hinv, J, rfl⟩ := hin
  clear q
  obtain ⟨rfl, hk1, hkn, hu, q⟩ := hinv
  have hwk : IntKind.i64.wrap ((k : Int) + 1) = ((k + 1 : Nat) : Int) := by rw [wrap_i64 (by omega) (by omega)]; omega
  have hwk1 : IntKind.i64.wrap ((k : Int) - 1) = ((k - 1 : Nat) : Int) := by rw [wrap_i64 (by omega) (by omega)]; omega
  simp -implicitDefEqProofs only [syms, symx, seval, c30]
  refine forkD (fun hlt1 => ?_) (fun hlt1 => ?_)
  rotate_left
  · repeat' ( simp -implicitDefEqProofs only [syms, symx, seval, c30])
    have hkl : k = l.length := by omega
    subst hkl
    rw [hu, List.take_length] at hk
    exact hk _ _ (z.upW _ _ (by omega)) (own_same (q.on _ _) hA (by omega) hC)
  have hin : (0 : Int) ≤ (k : Int) ∧ (k : Int) < (l.length : Int) := by omega
  have hin1 : (0 : Int) ≤ ((k - 1 : Nat) : Int) ∧ ((k - 1 : Nat) : Int) < (l.length : Int) := by omega
  have hld := fun (bs : List Blk) (w : Nat) => load_atom (bs := bs) (w := w) q (getD_at (l := l) (i := k) (by omega))
  have hld1 := fun (bs : List Blk) (w : Nat) => load_atom (bs := bs) (w := w) q (getD_at (l := l) (i := k - 1) (by omega))
  simp -implicitDefEqProofs only [syms, symx, seval, c30]
  refine (drawN (by simp only [c30])) (z.upW _ _ (by omega)) ?_
  repeat' ( simp -implicitDefEqProofs only [syms, symx, seval, c30, hwk1, hin, hin1, and_self, if_true, ↓hld, ↓hld1, valE_atom])
  refine ok_same _ _ (light_getD hlt (by omega)) (light_getD hlt (by omega)) _ _ (fun h' x => ?_)
  (( ((with_reducible refine KOpsX_call ?_ ?_ ?_); (· exact (by (try simp only [lsz]); have := z.size; omega)); (·  exact x )) ); replace z := z.overW x (by (try simp only [lsz]); omega); (try replace q := q.over x); rw [lay_nil h'])
  cases hc : (cmpD (l.getD k noAtomD) (l.getD (k - 1) noAtomD) == 0)
  · repeat' (first | simp -implicitDefEqProofs only [syms, symx, seval, c30] | ((with_reducible refine ⟨z.grw.lay _ _, ?_⟩); (intro _ h' zz x _); (try simp only [lay_lay, List.append_nil] at x); (try replace q := q.over x); (replace z := zz); (clear zz); rw [lay_nil h']))
    rw [hwk]
    (rw [hI1]; with_reducible refine loopN_normal (m := _) ?_ ⟨k + 1, _, rfl, z, ⟨rfl, by omega, by omega, uniqN_keep (by omega) (by omega) hu (by simpa using hc), q⟩, junk (by kernel_rfl)⟩; omega)
  have hc : cmpD (l.getD k noAtomD) (l.getD (k - 1) noAtomD) = 0 := by simpa using hc
  repeat' (first | simp -implicitDefEqProofs only [syms, symx, seval, c30] | ((with_reducible refine ⟨z.grw.lay _ _, ?_⟩); (intro _ h' zz x _); (try simp only [lay_lay, List.append_nil] at x); (try replace q := q.over x); (replace z := zz); (clear zz); rw [lay_nil h']))
  rw [hC, open_from ds23 sz36 (by omega) (Nat.le_refl _) (by omega), ← hC]
  repeat' ( simp -implicitDefEqProofs only [syms, symx, seval, c30])
  obtain ⟨C2, hC2⟩ : ∃ C2, C2 = G * 11 + (l.length - k) := ⟨_, rfl⟩
  rw [← hC2]
  obtain ⟨I2, hI2⟩ : ∃ I : Nat → Env → Heap → Prop, I = (fun n e h' => ∃ (b i : Nat) (cur : List AtomD) (h1 : Heap), h' = h1.lay [] h1.low ∧ Ext h h1 ∧ (n = l.length - (k + b) ∧ 1 ≤ b ∧ k + b ≤ l.length ∧ cur.length = l.length ∧ i + 1 ≤ k + b ∧ cur.take i = uniqN l (k + b) ∧ (∀ p, k + b ≤ p + 1 → cur.getD p noAtomD = l.getD p noAtomD) ∧ Holds h1 A (.row (rowA cur) 36 false)) ∧ ∃ J : Nat → Value, e = (.slice (some ⟨A, 0, none⟩) l.length C :: .func (.func 31) ⟨[]⟩ ⟨[]⟩ :: jr J 2 3 (.int .i64 i :: .slice (some ⟨A, k * 11, none⟩) (l.length - k) C2 :: .int .i64 b :: jr J 8 58 ([])))) := ⟨_, rfl⟩
  refine W_loopN I2 _ (by rw [hI2]; exact ⟨1, k, l, _, rfl, z, ⟨rfl, by omega, by omega, rfl, by omega, by rw [uniqN_no (by omega) hc]; exact hu.symm, fun _ _ => rfl, q⟩, junk (by kernel_rfl)⟩) ?_
  intro n e h' hin
  rw [hI2] at hin
  obtain ⟨b, i, cur, h2', rfl, z, hinv, J, rfl⟩ := hin
  clear q
  obtain ⟨rfl, hb1, hbn, hcl, hik, hcu, hce, q⟩ := hinv
  have hwb : IntKind.i64.wrap ((b : Int) + 1) = ((b + 1 : Nat) : Int) := by rw [wrap_i64 (by omega) (by omega)]; omega
  have hwb1 : IntKind.i64.wrap ((b : Int) - 1) = ((b - 1 : Nat) : Int) := by rw [wrap_i64 (by omega) (by omega)]; omega
  have hwi : IntKind.i64.wrap ((i : Int) + 1) = ((i + 1 : Nat) : Int) := by rw [wrap_i64 (by omega) (by omega)]; omega
  simp -implicitDefEqProofs only [syms, symx, seval, c30]
  refine forkD (fun hlt2 => ?_) (fun hlt2 => ?_)
  rotate_left
  · have hkb : k + b = l.length := by omega
    have hil : i ≤ l.length := by omega
    simp -implicitDefEqProofs only [syms, symx, seval, c30]
    rw [hC, open_from ds23 sz36 hil (Nat.le_refl _) (by omega), ← hC]
    obtain ⟨C3, hC3⟩ : ∃ C3, C3 = G * 11 + (l.length - i) := ⟨_, rfl⟩
    rw [← hC3]
    simp -implicitDefEqProofs only [syms, symx, seval, c30, w_clear]
    refine clear_rule q ds23 tab_info36 (by omega) (by omega) (fun h3 q3 c3 => ?_)
    replace z := z.stepW c3 hA (by omega)
    rw [lay_nil h3]
    clear q
    simp -implicitDefEqProofs only [syms, symx, seval, c30]
    rw [hC, open_to ds23 sz36 hil (Nat.le_refl _) (by omega), ← hC]
    repeat' ( simp -implicitDefEqProofs only [syms, symx, seval, c30])
    rw [hcu, hkb] at q3
    have hlen : i = (uniqN l l.length).length := by rw [← hkb, ← hcu, List.length_take]; omega
    have hlen2 : (uniqN l l.length ++ List.replicate (cur.length - i) noAtomD).length = l.length := by rw [List.length_append, List.length_replicate]; omega
    exact hk _ _ (z.upW _ _ (by omega)) (own_part (q3.on _ _) hA (by omega) hlen (by rw [hlen2]; exact hC))
  have hin : (0 : Int) ≤ (b : Int) ∧ (b : Int) < ((l.length - k : Nat) : Int) := by omega
  have hin1 : (0 : Int) ≤ ((b - 1 : Nat) : Int) ∧ ((b - 1 : Nat) : Int) < ((l.length - k : Nat) : Int) := by omega
  have hld := fun (bs : List Blk) (w : Nat) => load_atom (bs := bs) (w := w) q (getD_at (l := cur) (i := k + b) (by omega))
  have hld1 := fun (bs : List Blk) (w : Nat) => load_atom (bs := bs) (w := w) q (getD_at (l := cur) (i := k + (b - 1)) (by omega))
  rw [Nat.add_mul] at hld hld1
  rw [hce _ (by omega)] at hld hld1
  simp -implicitDefEqProofs only [syms, symx, seval, c30]
  refine (drawN (by simp only [c30])) (z.upW _ _ (by omega)) ?_
  repeat' ( simp -implicitDefEqProofs only [syms, symx, seval, c30, hwb1, hin, hin1, and_self, if_true, ↓hld, ↓hld1, valE_atom])
  refine ok_same _ _ (light_getD hlt (by omega)) (light_getD hlt (by omega)) _ _ (fun h' x => ?_)
  (( ((with_reducible refine KOpsX_call ?_ ?_ ?_); (· exact (by (try simp only [lsz]); have := z.size; omega)); (·  exact x )) ); replace z := z.overW x (by (try simp only [lsz]); omega); (try replace q := q.over x); rw [lay_nil h'])
  cases hc2 : (cmpD (l.getD (k + b) noAtomD) (l.getD (k + (b - 1)) noAtomD) == 0)
  rotate_left
  · have hc2 : cmpD (l.getD (k + b) noAtomD) (l.getD (k + b - 1) noAtomD) = 0 := by rw [show k + b - 1 = k + (b - 1) by omega]; simpa using hc2
    repeat' (first | simp -implicitDefEqProofs only [syms, symx, seval, c30] | ((with_reducible_and_instances apply unop_not); (· rfl)) | ((with_reducible refine ⟨z.grw.lay _ _, ?_⟩); (intro _ h' zz x _); (try simp only [lay_lay, List.append_nil] at x); (try replace q := q.over x); (replace z := zz); (clear zz); rw [lay_nil h']))
    rw [hwb]
    (rw [hI2]; with_reducible refine loopN_normal (m := _) ?_ ⟨b + 1, i, cur, _, rfl, z, ⟨rfl, by omega, by omega, hcl, by omega, by rw [hcu, show k + (b + 1) = k + b + 1 by omega, uniqN_no (by omega) hc2], fun p hp => hce p (by omega), q⟩, junk (by kernel_rfl)⟩; omega)
  have hc2 : cmpD (l.getD (k + b) noAtomD) (l.getD (k + b - 1) noAtomD) ≠ 0 := by rw [show k + b - 1 = k + (b - 1) by omega]; simpa using hc2
  repeat' (first | simp -implicitDefEqProofs only [syms, symx, seval, c30] | ((with_reducible_and_instances apply unop_not); (· rfl)) | ((with_reducible refine ⟨z.grw.lay _ _, ?_⟩); (intro _ h' zz x _); (try simp only [lay_lay, List.append_nil] at x); (try replace q := q.over x); (replace z := zz); (clear zz); rw [lay_nil h']))
  have hld := fun (bs : List Blk) (w : Nat) => load_atom (bs := bs) (w := w) q (getD_at (l := cur) (i := k + b) (by omega))
  rw [Nat.add_mul] at hld
  rw [hce _ (by omega)] at hld
  have hini : (0 : Int) ≤ (i : Int) ∧ (i : Int) < (l.length : Int) := by omega
  repeat' ( simp -implicitDefEqProofs only [syms, symx, seval, c30, hin, hini, and_self, if_true, ↓hld, valE_atom])
  have hz := z.size
  refine store_atom q sz36 (by omega) (fun h3 q3 c3 => ?_)
  replace z := z.stepW c3 hA (by omega)
  rw [lay_nil h3]
  clear q hld
  repeat' ( simp -implicitDefEqProofs only [syms, symx, seval, c30])
  rw [hwi, hwb]
  have hce3 : ∀ p, k + (b + 1) ≤ p + 1 → (cur.set i (l.getD (k + b) noAtomD)).getD p noAtomD = l.getD p noAtomD := by
    intro p hp
    have hne : i ≠ p := by omega
    rw [amGetD_set_ne hne]
    exact hce p (by omega)
  (rw [hI2]; with_reducible refine loopN_normal (m := _) ?_ ⟨b + 1, i + 1, cur.set i (l.getD (k + b) noAtomD), _, rfl, z, ⟨rfl, by omega, by omega, by rw [List.length_set]; exact hcl, by omega, by rw [take_set (by omega), hcu, show k + (b + 1) = k + b + 1 by omega, uniqN_new hc2], hce3, q3⟩, junk (by kernel_rfl)⟩; omega)
theorem ok_sortNil (v : Value) (h : Heap) (hl : Sl Rep.atom h v []) (K : Value → Heap → Prop) (hk : ∀ h', Ext h h' → K undef h') : Ok Tryd.prog tab ov 28 [v, .func (.func 29) ⟨[]⟩ ⟨[]⟩] h K := by
  rw [lay_nil h]
  have z := Ext.refl h
  have hln := fun (hh : Heap) => hl.lenA ds23 hh
  have hva := vSelf v
  simp only [List.length_nil] at hln
  have hn0 : ((0 : Nat) : Int) = 0 := rfl
  refine Ok.into rfl tab_fn28 (bodyF N28) rfl (m := 7) rfl ?_
  repeat' ( simp -implicitDefEqProofs only [syms, symx, seval, c42, c28, c30, c60, hln, hva, hn0])
  refine Ok.into rfl tab_fn42 (bodyF N42) rfl (m := 60) rfl ?_
  simp -implicitDefEqProofs only [syms, symx, seval, c42, c28, c30, c60, hln, hva, hn0]
  refine W_unroll ?_
  simp -implicitDefEqProofs only [syms, symx, seval, c42, c28, c30, c60, hln, hva, hn0, decide_false, forkE_false]
  refine Ok.into rfl tab_fn60 (bodyF N60) rfl (m := 49) rfl ?_
  simp -implicitDefEqProofs only [syms, symx, seval, c42, c28, c30, c60, hln, hva, hn0]
  refine W_unroll ?_
  simp -implicitDefEqProofs only [syms, symx, seval, c42, c28, c30, c60, hln, hva, hn0, decide_false, forkE_false]
  refine W_unroll ?_
  simp -implicitDefEqProofs only [syms, symx, seval, c42, c28, c30, c60, hln, hva, hn0, decide_false, forkE_false]
  exact hk _ (z.upW _ _ (by omega))
theorem ok_compactNil (v : Value) (h : Heap) (hl : Sl Rep.atom h v []) (f : Value) (K : Value → Heap → Prop) (hk : ∀ h', Ext h h' → K v h') : Ok Tryd.prog tab ov 30 [v, f] h K := by
  rw [lay_nil h]
  have z := Ext.refl h
  have hln := fun (hh : Heap) => hl.lenA ds23 hh
  have hva := vSelf v
  simp only [List.length_nil] at hln
  have hn0 : ((0 : Nat) : Int) = 0 := rfl
  refine Ok.into rfl tab_fn30 (bodyF N30) rfl (m := 64) rfl ?_
  simp -implicitDefEqProofs only [syms, symx, seval, c42, c28, c30, c60, hln, hva, hn0, decide_true, forkE_true]
  exact hk _ (z.upW _ _ (by omega))
theorem ok_sorted (l : List AtomD) (v : Value) (h : Heap) (hl : Sl Rep.atom h v l) (hn : l.length ≤ 100000) (hlt : ∀ x ∈ l, x.light = true) (K : Value → Heap → Prop)
    (hk : ∀ h' w, Ext h h' → OwnA h h' 36 w (sortA l) → K w h') : Ok Tryd.prog tab ov 21 [v] h K := by
  rw [lay_nil h]
  have z := Ext.refl h
  refine Ok.into rfl tab_fn21 (bodyF N21) rfl (m := 9) rfl ?_
  repeat' ( simp -implicitDefEqProofs only [syms, symx, seval, c21])
  refine ok_cloneA l v _ (hl.lay _ _) (by omega) _ (fun h' w x ho => ?_)
  rcases ho with ⟨rfl, ho⟩ | ⟨A, rfl, q, hA, hne⟩
  · have hva := vSelf w
    ((skip); replace z := z.overW x (by (try simp only [lsz]); omega); rw [lay_nil h'])
    repeat' ( simp -implicitDefEqProofs only [syms, symx, seval, c21, hva])
    refine ok_sortNil w _ (ho.lay _ _).sl _ (fun h' x => ?_)
    replace ho := ho.over x
    ((skip); replace z := z.overW x (by (try simp only [lsz]); omega); rw [lay_nil h'])
    repeat' ( simp -implicitDefEqProofs only [syms, symx, seval, c21, hva])
    refine ok_compactNil w _ (ho.lay _ _).sl _ _ (fun h' x => ?_)
    replace ho := ho.over x
    ((skip); replace z := z.overW x (by (try simp only [lsz]); omega); rw [lay_nil h'])
    repeat' ( simp -implicitDefEqProofs only [syms, symx, seval, c21, hva])
    exact hk _ _ (z.upW _ _ (by omega)) (.inl ⟨rfl, ho.lay _ _⟩)
  · ((skip); replace z := z.overW x (by (try simp only [lsz]); omega); rw [lay_nil h'])
    repeat' ( simp -implicitDefEqProofs only [syms, symx, seval, c21])
    refine ok_sortStable l A (G * 11 + l.length) h _ (z.upW _ _ (by omega)) hA (q.on _ _) hn hlt _ (fun h' l' x q' hp hst hso => ?_)
    replace z := x
    rw [lay_nil h']
    repeat' ( simp -implicitDefEqProofs only [syms, symx, seval, c21])
    have key := fun K hk => ok_compact l' A h (h'.lay [] h'.low) (z.upW _ _ (by omega)) hA (q'.on _ _) (by rw [hp.length_eq]; omega) (light_perm hlt hp) K hk
    rw [uniq_sortA hp hst hso, hp.length_eq] at key
    refine key _ (fun h' w x ho => ?_)
    replace z := x
    have hva := vSelf w
    rw [lay_nil h']
    repeat' ( simp -implicitDefEqProofs only [syms, symx, seval, c21, hva])
    exact hk _ _ (z.upW _ _ (by omega)) (ho.lay _ _)
end Go.Proofs.YtemapihoobmonaaDoor
