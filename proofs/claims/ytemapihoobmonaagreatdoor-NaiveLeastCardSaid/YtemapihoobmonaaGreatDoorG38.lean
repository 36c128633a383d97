/- Walks: sorting in place: Am.one block Written out by fill2.py. No condition. -/
import Derived.Test.YtemapihoobmonaaGreatDoorG29
import Derived.Test.YtemapihoobmonaaGreatDoorG23
import Derived.Test.YtemapihoobmonaaGreatDoorG24
import Derived.Test.YtemapihoobmonaaGreatDoorG19
import Derived.Test.YtemapihoobmonaaGreatDoorG25
namespace Go.Proofs.YtemapihoobmonaaGreatDoor
open Go.Am
set_option linter.unusedSimpArgs false
set_option linter.unusedVariables false
set_option maxRecDepth 100000
set_option maxHeartbeats 0
theorem zgY (l : List AtomD) (A c a b : Nat) (h hs : Heap) (z : Ext h hs) (hA : h.size ≤ A) (q : Holds hs A (.row (rowA l) 26 false)) (hab : a ≤ b) (hb : b ≤ l.length) (hn : l.length ≤ 100000) (hlt : ∀ x ∈ l, x.light = true) (K : Value → Heap → Prop)
    (hk : ∀ h' l', Ext h h' → Holds h' A (.row (rowA l') 26 false) → l'.Perm l → Stab l l' → zaE l' a b → zfm l l' a b → K undef h') : Ok Tryz.prog tab ov 173 [.slice (some ⟨A, 0, none⟩) l.length c, .int .i64 a, .int .i64 b, .func (.func 98) ⟨[]⟩ ⟨[]⟩] hs K := by
  rw [zaa hs]
  have hw0 : IntKind.i64.wrap ((a : Int) + 1) = ((a + 1 : Nat) : Int) := by rw [zae (by omega) (by omega)]; omega
  refine Ok.into rfl zlc (zay N173) rfl (m := 49) rfl ?_
  simp -implicitDefEqProofs only [syms, symx, seval, c173]
  rw [hw0]
  obtain ⟨I1, hI1⟩ : ∃ I : Nat → Env → Heap → Prop, I = (fun n e h' => ∃ (i : Nat) (l1 : List AtomD) (h1 : Heap), h' = h1.lay [] h1.low ∧ Ext h h1 ∧ (n = b - i ∧ a < i ∧ (i ≤ b ∨ (i = a + 1 ∧ l1 = l)) ∧ l1.Perm l ∧ Stab l l1 ∧ zaE l1 a i ∧ zfm l l1 a i ∧ Holds h1 A (.row (rowA l1) 26 false)) ∧ ∃ J : Nat → Value, e = (.slice (some ⟨A, 0, none⟩) l.length c :: .int .i64 a :: .int .i64 b :: .func (.func 98) ⟨[]⟩ ⟨[]⟩ :: jr J 4 4 (.int .i64 i :: jr J 9 44 ([])))) := ⟨_, rfl⟩
  refine zas I1 _ (by rw [hI1]; exact ⟨a + 1, l, _, rfl, z, ⟨rfl, by omega, .inr ⟨rfl, rfl⟩, List.Perm.refl _, Stab.refl _, fun k g1 g2 => by omega, fun k _ => rfl, q⟩, junk (by kernel_rfl)⟩) ?_
  intro n e h' hin
  rw [hI1] at hin
  obtain ⟨i, l1, h1', rfl, z, hinv, J, rfl⟩ := hin
  clear q
  obtain ⟨rfl, hai, hib, hp1, hst1, hso1, hsa1, q⟩ := hinv
  have hw : IntKind.i64.wrap ((i : Int) + 1) = ((i + 1 : Nat) : Int) := by rw [zae (by omega) (by omega)]; omega
  simp -implicitDefEqProofs only [syms, symx, seval, c173]
  refine zax (fun hlt1 => ?_) (fun hlt1 => ?_)
  rotate_left
  · simp -implicitDefEqProofs only [syms, symx, seval, c173, zx4]
    repeat' ((first | ((with_reducible first | apply zax | apply zda | apply ziJ | apply zgT | apply zgs) <;> intro _) | ((with_reducible refine ⟨z.grw.lay _ _, ?_⟩); (intro _ h' zz x _); (try simp only [zaq, List.append_nil] at x); (replace z := zz); (clear zz); rw [zaa h'])) <;> simp -implicitDefEqProofs only [syms, symx, seval, c173])
    refine hk _ _ (z.upW _ _ (by omega)) (q.on _ _) hp1 hst1 (fun k g1 g2 => hso1 k g1 (by omega)) (fun k g => ?_)
    rcases hib with hib | ⟨_, rfl⟩
    · exact hsa1 k (by omega)
    · rfl
  have hl1 := hp1.length_eq
  have hlt1' := zb4 hlt hp1
  repeat' ( simp -implicitDefEqProofs only [syms, symx, seval, c173])
  obtain ⟨I2, hI2⟩ : ∃ I : Nat → Env → Heap → Prop, I = (fun n e h' => ∃ (j : Nat) (l2 : List AtomD) (h1 : Heap), h' = h1.lay [] h1.low ∧ Ext h h1 ∧ (n = j - a ∧ a ≤ j ∧ j ≤ i ∧ l2.Perm l ∧ Stab l l2 ∧ ztC l2 a i j ∧ zfm l l2 a (i + 1) ∧ Holds h1 A (.row (rowA l2) 26 false)) ∧ ∃ J : Nat → Value, e = (.slice (some ⟨A, 0, none⟩) l.length c :: .int .i64 a :: .int .i64 b :: .func (.func 98) ⟨[]⟩ ⟨[]⟩ :: jr J 4 4 (.int .i64 i :: .int .i64 j :: jr J 10 43 ([])))) := ⟨_, rfl⟩
  refine zas I2 _ (by rw [hI2]; exact ⟨i, l1, _, rfl, z, ⟨rfl, by omega, by omega, hp1, hst1, znE hso1, fun k g => hsa1 k (by omega), q⟩, junk (by kernel_rfl)⟩) ?_
  intro n e h' hin
  rw [hI2] at hin
  obtain ⟨j, l2, h2', rfl, z, hinv, J, rfl⟩ := hin
  clear q hp1 hst1 hso1 hsa1 hl1 hlt1'
  obtain ⟨rfl, haj, hji, hp2, hst2, hsf, hsa2, q⟩ := hinv
  have hl2 := hp2.length_eq
  have hlt2 := zb4 hlt hp2
  simp -implicitDefEqProofs only [syms, symx, seval, c173]
  refine (zbU (by simp only [c173])) (z.upW _ _ (by omega)) ?_
  simp -implicitDefEqProofs only [syms, symx, seval, c173]
  refine zax (fun hgt => ?_) (fun hgt => ?_)
  rotate_left
  · repeat' (first | simp -implicitDefEqProofs only [syms, symx, seval, c173] | ((with_reducible refine ⟨z.grw.lay _ _, ?_⟩); (intro _ h' zz x _); (try simp only [zaq, List.append_nil] at x); (try replace q := q.over x); (replace z := zz); (clear zz); rw [zaa h']))
    rw [hw]
    (rw [hI1]; with_reducible refine zac (m := _) ?_ ⟨i + 1, l2, _, rfl, z, ⟨rfl, by omega, .inl (by omega), hp2, hst2, zkV hsf hji (fun g => absurd g (by omega)), hsa2, q⟩, junk (by kernel_rfl)⟩; omega)
  have hwj : IntKind.i64.wrap ((j : Int) - 1) = ((j - 1 : Nat) : Int) := by rw [zae (by omega) (by omega)]; omega
  have hin : (0 : Int) ≤ (j : Int) ∧ (j : Int) < (l.length : Int) := by omega
  have hin1 : (0 : Int) ≤ ((j - 1 : Nat) : Int) ∧ ((j - 1 : Nat) : Int) < (l.length : Int) := by omega
  have hld := fun (bs : List Blk) (w : Nat) => zaL (bs := bs) (w := w) q (zaH (l := l2) (i := j) (by omega))
  have hld1 := fun (bs : List Blk) (w : Nat) => zaL (bs := bs) (w := w) q (zaH (l := l2) (i := j - 1) (by omega))
  repeat' ( simp -implicitDefEqProofs only [syms, symx, seval, c173, hwj, hin, hin1, and_self, if_true, ↓hld, ↓hld1, zai])
  refine zgZ _ _ (zaP hlt2 (by omega)) (zaP hlt2 (by omega)) _ _ (fun h' x => ?_)
  (( ((with_reducible refine zaD ?_ ?_ ?_); (· exact (by (try simp only [lsz]); have := z.size; omega)); (·  exact x )) ); replace z := z.overW x (by (try simp only [lsz]); omega); (try replace q := q.over x); rw [zaa h'])
  simp -implicitDefEqProofs only [syms, symx, seval, c173]
  refine zax (fun hc => ?_) (fun hc => ?_)
  rotate_left
  · repeat' (first | simp -implicitDefEqProofs only [syms, symx, seval, c173] | ((with_reducible refine ⟨z.grw.lay _ _, ?_⟩); (intro _ h' zz x _); (try simp only [zaq, List.append_nil] at x); (try replace q := q.over x); (replace z := zz); (clear zz); rw [zaa h']))
    rw [hw]
    (rw [hI1]; with_reducible refine zac (m := _) ?_ ⟨i + 1, l2, _, rfl, z, ⟨rfl, by omega, .inl (by omega), hp2, hst2, zkV hsf hji (fun _ => zgq hc), hsa2, q⟩, junk (by kernel_rfl)⟩; omega)
  repeat' (first | simp -implicitDefEqProofs only [syms, symx, seval, c173] | ((with_reducible refine ⟨z.grw.lay _ _, ?_⟩); (intro _ h' zz x _); (try simp only [zaq, List.append_nil] at x); (try replace q := q.over x); (replace z := zz); (clear zz); rw [zaa h']))
  have hld := fun (bs : List Blk) (w : Nat) => zaL (bs := bs) (w := w) q (zaH (l := l2) (i := j) (by omega))
  have hld1 := fun (bs : List Blk) (w : Nat) => zaL (bs := bs) (w := w) q (zaH (l := l2) (i := j - 1) (by omega))
  refine (zbU (by simp only [c173])) (z.upW _ _ (by omega)) ?_
  repeat' ( simp -implicitDefEqProofs only [syms, symx, seval, c173, hwj, hin, hin1, and_self, if_true, ↓hld, ↓hld1, zai])
  refine zbz q sz26 (by omega) (fun h3 q3 c3 => ?_)
  have hz := z.size
  refine zbS (A := A) (by kernel_rfl) (by rw [zad]; omega) (by omega) (by simpa only [zaq, zad, List.append_nil, List.length_cons, List.length_nil, Nat.add_zero] using c3) ?_
  replace z := (z.upW [] (h'.size + 0) (by omega)).step c3 hA
  rw [zaa h3]
  clear q hld hld1
  repeat' ( simp -implicitDefEqProofs only [syms, symx, seval, c173, hwj, hin, hin1, and_self, if_true])
  refine zbz q3 sz26 (by rw [List.length_set]; omega) (fun h4 q4 c4 => ?_)
  have hz := z.size
  refine zbS (A := A) (by kernel_rfl) (by rw [zad]; omega) (by omega) (by simpa only [zaq, zad, List.append_nil, List.length_cons, List.length_nil, Nat.add_zero] using c4) ?_
  replace z := (z.upW [] (h3.size + 0) (by omega)).step c4 hA
  rw [zaa h4]
  clear q3
  repeat' (first | simp -implicitDefEqProofs only [syms, symx, seval, c173, hwj] | ((with_reducible refine ⟨z.grw.lay _ _, ?_⟩); (intro _ h' zz x _); (try simp only [zaq, List.append_nil] at x); (try replace q4 := q4.over x); (replace z := zz); (clear zz); rw [zaa h']))
  replace q4 : Holds _ A (.row (rowA (zce l2 j (j - 1))) 26 false) := q4
  (rw [hI2]; with_reducible refine zac (m := _) ?_ ⟨j - 1, zce l2 j (j - 1), _, rfl, z, ⟨rfl, by omega, by omega, (zgv (by omega) (by omega)).trans hp2, hst2.trans (zle (by omega) (by omega) hc), zqa hsf (by omega) hji (by omega) hc, zlH hsa2 (by omega) hji (by omega), q4⟩, junk (by kernel_rfl)⟩; omega)
theorem zea (l : List AtomD) (A c a b w : Nat) (fv : Value) (h hs : Heap) (z : Ext h hs) (hA : h.size ≤ A) (q : Holds hs A (.row (rowA l) 26 false)) (hab : a + w ≤ b) (hb : b + w ≤ l.length) (hn : l.length ≤ 100000) (K : Value → Heap → Prop)
    (hk : ∀ h' l', Ext h h' → Holds h' A (.row (rowA l') 26 false) → l'.Perm l → zgO l l' a b w → K undef h') : Ok Tryz.prog tab ov 220 [.slice (some ⟨A, 0, none⟩) l.length c, .int .i64 a, .int .i64 b, .int .i64 w, fv] hs K := by
  rw [zaa hs]
  refine Ok.into rfl zq6 (zay N220) rfl (m := 33) rfl ?_
  simp -implicitDefEqProofs only [syms, symx, seval, c220]
  obtain ⟨I1, hI1⟩ : ∃ I : Nat → Env → Heap → Prop, I = (fun n e h' => ∃ (i : Nat) (l1 : List AtomD) (h1 : Heap), h' = h1.lay [] h1.low ∧ Ext h h1 ∧ (n = w - i ∧ i ≤ w ∧ l1.Perm l ∧ zgO l l1 a b i ∧ Holds h1 A (.row (rowA l1) 26 false)) ∧ ∃ J : Nat → Value, e = (.slice (some ⟨A, 0, none⟩) l.length c :: .int .i64 a :: .int .i64 b :: .int .i64 w :: jr J 4 6 (.int .i64 i :: jr J 11 27 ([])))) := ⟨_, rfl⟩
  refine zas I1 _ (by rw [hI1]; exact ⟨0, l, _, rfl, z, ⟨rfl, by omega, List.Perm.refl _, zne l a b, q⟩, junk (by kernel_rfl)⟩) ?_
  intro n e h' hin
  rw [hI1] at hin
  obtain ⟨i, l1, h1', rfl, z, hinv, J, rfl⟩ := hin
  clear q
  obtain ⟨rfl, hi, hp, hsw, q⟩ := hinv
  have hl1 := hp.length_eq
  have hw : IntKind.i64.wrap ((i : Int) + 1) = ((i + 1 : Nat) : Int) := by rw [zae (by omega) (by omega)]; omega
  simp -implicitDefEqProofs only [syms, symx, seval, c220]
  refine zax (fun hlt => ?_) (fun hlt => ?_)
  rotate_left
  · repeat' ( simp -implicitDefEqProofs only [syms, symx, seval, c220])
    have hiw : i = w := by omega
    subst hiw
    exact hk _ _ (z.upW _ _ (by omega)) (q.on _ _) hp hsw
  have hwa : IntKind.i64.wrap ((a : Int) + (i : Int)) = ((a + i : Nat) : Int) := by rw [zae (by omega) (by omega)]; omega
  have hwb : IntKind.i64.wrap ((b : Int) + (i : Int)) = ((b + i : Nat) : Int) := by rw [zae (by omega) (by omega)]; omega
  have hin : (0 : Int) ≤ ((a + i : Nat) : Int) ∧ ((a + i : Nat) : Int) < (l.length : Int) := by omega
  have hin1 : (0 : Int) ≤ ((b + i : Nat) : Int) ∧ ((b + i : Nat) : Int) < (l.length : Int) := by omega
  have hld := fun (bs : List Blk) (w : Nat) => zaL (bs := bs) (w := w) q (zaH (l := l1) (i := a + i) (by omega))
  have hld1 := fun (bs : List Blk) (w : Nat) => zaL (bs := bs) (w := w) q (zaH (l := l1) (i := b + i) (by omega))
  simp -implicitDefEqProofs only [syms, symx, seval, c220]
  refine (zbU (by simp only [c220])) (z.upW _ _ (by omega)) ?_
  repeat' ( simp -implicitDefEqProofs only [syms, symx, seval, c220, hwa, hwb, hin, hin1, and_self, if_true, ↓hld, ↓hld1, zai])
  have hz := z.size
  refine zbz q sz26 (by omega) (fun h3 q3 c3 => ?_)
  refine zbS (A := A) (by kernel_rfl) (by rw [zad]; omega) (by omega) (by simpa only [zaq, zad, List.append_nil, List.length_cons, List.length_nil, Nat.add_zero] using c3) ?_
  replace z := (z.upW [] (h1'.size + 0) (by omega)).step c3 hA
  rw [zaa h3]
  clear q hld hld1
  repeat' ( simp -implicitDefEqProofs only [syms, symx, seval, c220, hwa, hwb, hin, hin1, and_self, if_true])
  refine zbz q3 sz26 (by rw [List.length_set]; omega) (fun h4 q4 c4 => ?_)
  have hz := z.size
  refine zbS (A := A) (by kernel_rfl) (by rw [zad]; omega) (by omega) (by simpa only [zaq, zad, List.append_nil, List.length_cons, List.length_nil, Nat.add_zero] using c4) ?_
  replace z := (z.upW [] (h3.size + 0) (by omega)).step c4 hA
  rw [zaa h4]
  clear q3
  repeat' (first | simp -implicitDefEqProofs only [syms, symx, seval, c220] | ((with_reducible refine ⟨z.grw.lay _ _, ?_⟩); (intro _ h' zz x _); (try simp only [zaq, List.append_nil] at x); (try replace q4 := q4.over x); (replace z := zz); (clear zz); rw [zaa h']))
  rw [hw]
  replace q4 : Holds _ A (.row (rowA (zce l1 (a + i) (b + i))) 26 false) := q4
  (rw [hI1]; with_reducible refine zac (m := _) ?_ ⟨i + 1, zce l1 (a + i) (b + i), _, rfl, z, ⟨rfl, by omega, (zgv (by omega) (by omega)).trans hp, zn4 hsw hab (by omega) (by omega), q4⟩, junk (by kernel_rfl)⟩; omega)
theorem zs5 (l : List AtomD) (A c a m b : Nat) (fv : Value) (h hs : Heap) (z : Ext h hs) (hA : h.size ≤ A) (q : Holds hs A (.row (rowA l) 26 false)) (ham : a < m) (hmb : m < b) (hb : b ≤ l.length) (hn : l.length ≤ 100000) (K : Value → Heap → Prop)
    (hk : ∀ h', Ext h h' → Holds h' A (.row (rowA (ziV l a m b)) 26 false) → (ziV l a m b).Perm l → K undef h') : Ok Tryz.prog tab ov 194 [.slice (some ⟨A, 0, none⟩) l.length c, .int .i64 a, .int .i64 m, .int .i64 b, fv] hs K := by
  rw [zaa hs]
  have hw1 : IntKind.i64.wrap ((m : Int) - (a : Int)) = ((m - a : Nat) : Int) := by rw [zae (by omega) (by omega)]; omega
  have hw2 : IntKind.i64.wrap ((b : Int) - (m : Int)) = ((b - m : Nat) : Int) := by rw [zae (by omega) (by omega)]; omega
  refine Ok.into rfl ztY (zay N194) rfl (m := 53) rfl ?_
  simp -implicitDefEqProofs only [syms, symx, seval, c194, hw1, hw2]
  obtain ⟨I1, hI1⟩ : ∃ I : Nat → Env → Heap → Prop, I = (fun n e h' => ∃ (i j : Nat) (l1 : List AtomD) (h1 : Heap), h' = h1.lay [] h1.low ∧ Ext h h1 ∧ (n = i + j ∧ 0 < i ∧ 0 < j ∧ i ≤ m ∧ m + j ≤ l.length ∧ l1.Perm l ∧ znK (ziV l a m b) l1 m i j ∧ Holds h1 A (.row (rowA l1) 26 false)) ∧ ∃ J : Nat → Value, e = (.slice (some ⟨A, 0, none⟩) l.length c :: J 1 :: .int .i64 m :: J 3 :: fv :: jr J 5 5 (.int .i64 i :: .int .i64 j :: jr J 12 46 ([])))) := ⟨_, rfl⟩
  refine zas I1 _ (by rw [hI1]; exact ⟨m - a, b - m, l, _, rfl, z, ⟨rfl, by omega, by omega, by omega, by omega, List.Perm.refl _, znf (by omega) (by omega) hb, q⟩, junk (by kernel_rfl)⟩) ?_
  intro n e h' hin
  rw [hI1] at hin
  obtain ⟨i, j, l1, h1', rfl, z, hinv, J, rfl⟩ := hin
  clear q
  obtain ⟨rfl, hi0, hj0, him, hjm, hp, htu, q⟩ := hinv
  have hl1 := hp.length_eq
  simp -implicitDefEqProofs only [syms, symx, seval, c194]
  have hwmi : IntKind.i64.wrap ((m : Int) - (i : Int)) = ((m - i : Nat) : Int) := by rw [zae (by omega) (by omega)]; omega
  refine ziJ (fun hne => ?_) (fun heq => ?_)
  rotate_left
  · have hij : i = j := by omega
    subst hij
    repeat' ( simp -implicitDefEqProofs only [syms, symx, seval, c194, hwmi])
    have key := fun K hk => zea l1 A c (m - i) m i fv h (h1'.lay [] h1'.low) (z.upW _ _ (by omega)) hA (q.on _ _) (by omega) (by omega) (by omega) K hk
    simp only [hl1] at key
    refine key _ (fun h' l' x q' hp' hs' => ?_)
    have hfin : l' = ziV l a m b := zkk (by rw [zgQ, hp'.length_eq, hl1]) (fun k => (zss htu him hs' k).symm)
    subst hfin
    rw [zaa h']
    repeat' ( simp -implicitDefEqProofs only [syms, symx, seval, c194])
    exact hk _ (x.upW _ _ (by omega)) (q'.on _ _) (hp'.trans hp)
  simp -implicitDefEqProofs only [syms, symx, seval, c194]
  refine zax (fun hgt => ?_) (fun hgt => ?_)
  · repeat' ( simp -implicitDefEqProofs only [syms, symx, seval, c194, hwmi])
    have key := fun K hk => zea l1 A c (m - i) m j fv h (h1'.lay [] h1'.low) (z.upW _ _ (by omega)) hA (q.on _ _) (by omega) (by omega) (by omega) K hk
    simp only [hl1] at key
    refine key _ (fun h' l' x q' hp' hs' => ?_)
    replace z := x
    rw [zaa h']
    have hwij : IntKind.i64.wrap ((i : Int) - (j : Int)) = ((i - j : Nat) : Int) := by rw [zae (by omega) (by omega)]; omega
    repeat' ( simp -implicitDefEqProofs only [syms, symx, seval, c194, hwij])
    (rw [hI1]; with_reducible refine zac (m := _) ?_ ⟨i - j, j, l', _, rfl, z, ⟨rfl, by omega, by omega, by omega, by omega, hp'.trans hp, zqV htu him (by omega) hs', q'⟩, junk (by kernel_rfl)⟩; omega)
  · have hwmj : IntKind.i64.wrap ((m : Int) + (j : Int)) = ((m + j : Nat) : Int) := by rw [zae (by omega) (by omega)]; omega
    have hwmji : IntKind.i64.wrap (((m + j : Nat) : Int) - (i : Int)) = ((m + j - i : Nat) : Int) := by rw [zae (by omega) (by omega)]; omega
    repeat' ( simp -implicitDefEqProofs only [syms, symx, seval, c194, hwmi, hwmj, hwmji])
    have key := fun K hk => zea l1 A c (m - i) (m + j - i) i fv h (h1'.lay [] h1'.low) (z.upW _ _ (by omega)) hA (q.on _ _) (by omega) (by omega) (by omega) K hk
    simp only [hl1] at key
    refine key _ (fun h' l' x q' hp' hs' => ?_)
    replace z := x
    rw [zaa h']
    have hwji : IntKind.i64.wrap ((j : Int) - (i : Int)) = ((j - i : Nat) : Int) := by rw [zae (by omega) (by omega)]; omega
    repeat' ( simp -implicitDefEqProofs only [syms, symx, seval, c194, hwji])
    (rw [hI1]; with_reducible refine zac (m := _) ?_ ⟨i, j - i, l', _, rfl, z, ⟨rfl, by omega, by omega, by omega, by omega, hp'.trans hp, znB htu him (by omega) hs', q'⟩, junk (by kernel_rfl)⟩; omega)
def zwx (sz : Nat) : Prop := ∀ (l : List AtomD) (A c a m b : Nat) (h hs : Heap), Ext h hs → h.size ≤ A → Holds hs A (.row (rowA l) 26 false) → a < m → m < b → b - a ≤ sz → b ≤ l.length → l.length ≤ 100000 → (∀ x ∈ l, x.light = true) → zaE l a m → zaE l m b → ∀ (K : Value → Heap → Prop),
  (∀ h' l', Ext h h' → Holds h' A (.row (rowA l') 26 false) → Mv l l' a b → zaE l' a b → K undef h') → Ok Tryz.prog tab ov 174 [.slice (some ⟨A, 0, none⟩) l.length c, .int .i64 a, .int .i64 m, .int .i64 b, .func (.func 98) ⟨[]⟩ ⟨[]⟩] hs K
theorem zfY (x y : Nat) (h : x + y ≤ 1000000) : IntKind.i64.wrap ((x : Int) + (y : Int)) = ((x + y : Nat) : Int) ∧ IntKind.u64.wrap ((x + y : Nat) : Int) = ((x + y : Nat) : Int) ∧ IntKind.i64.wrap (((x + y) / 2 : Nat) : Int) = (((x + y) / 2 : Nat) : Int) ∧ Int.fdiv ((x + y : Nat) : Int) (2 ^ (min (1 : Int).toNat (IntKind.bits .u64))) = (((x + y) / 2 : Nat) : Int) := by
  refine ⟨by rw [zae (by omega) (by omega)]; omega, by unfold IntKind.wrap; simp [IntKind.bits]; omega, zae (by omega) (by omega), ?_⟩
  show Int.fdiv ((x + y : Nat) : Int) 2 = _
  rw [Int.fdiv_eq_ediv_of_nonneg _ (by omega)]
  omega
theorem zqY (sz : Nat) (ih : zwx sz) : zwx (sz + 1) := by
  intro l A c a m b h hs z hA q ham hmb hsz hb hn hlt h1 h2 K hk
  rw [zaa hs]
  have hw1 : IntKind.i64.wrap ((m : Int) - (a : Int)) = ((m - a : Nat) : Int) := by rw [zae (by omega) (by omega)]; omega
  have hw2 : IntKind.i64.wrap ((b : Int) - (m : Int)) = ((b - m : Nat) : Int) := by rw [zae (by omega) (by omega)]; omega
  have hla : l[a]? = some (l.getD a noAtomD) := zaH (by omega)
  have hlm : l[m]? = some (l.getD m noAtomD) := zaH (by omega)
  refine Ok.into rfl zrk (zay N174) rfl (m := 215) rfl ?_
  simp -implicitDefEqProofs only [syms, symx, seval, c174, hw1, hw2]
  refine zda (fun hone => ?_) (fun hone => ?_)
  · -- Am.one element in front
    simp -implicitDefEqProofs only [syms, symx, seval, c174]
    obtain ⟨I1, hI1⟩ : ∃ I : Nat → Env → Heap → Prop, I = (fun n e h' => ∃ (i j : Nat) (h1 : Heap), h' = h1.lay [] h1.low ∧ Ext h h1 ∧ (n = j - i ∧ m ≤ i ∧ i ≤ j ∧ j ≤ b ∧ (i = m ∨ cmpD (l.getD (i - 1) noAtomD) (l.getD a noAtomD) < 0) ∧ (j = b ∨ ¬ cmpD (l.getD j noAtomD) (l.getD a noAtomD) < 0) ∧ Holds h1 A (.row (rowA l) 26 false)) ∧ ∃ J : Nat → Value, e = (.slice (some ⟨A, 0, none⟩) l.length c :: .int .i64 a :: .int .i64 m :: .int .i64 b :: .func (.func 98) ⟨[]⟩ ⟨[]⟩ :: jr J 5 5 (.int .i64 i :: .int .i64 j :: jr J 12 208 ([])))) := ⟨_, rfl⟩
    refine zas I1 _ (by rw [hI1]; exact ⟨m, b, _, rfl, z, ⟨rfl, by omega, by omega, by omega, .inl rfl, .inl rfl, q⟩, junk (by kernel_rfl)⟩) ?_
    intro n e h' hin
    rw [hI1] at hin
    obtain ⟨i, j, h1', rfl, z, hinv, J, rfl⟩ := hin
    clear q
    obtain ⟨rfl, g1, g2, g3, g4, g5, q⟩ := hinv
    simp -implicitDefEqProofs only [syms, symx, seval, c174]
    refine zax (fun hij => ?_) (fun hij => ?_)
    rotate_left
    · have hij2 : i = j := by omega
      subst hij2
      have hl0 := g4
      have hr0 := g5
      have hwi : IntKind.i64.wrap ((i : Int) - 1) = ((i - 1 : Nat) : Int) := by rw [zae (by omega) (by omega)]; omega
      have ham1 : m = a + 1 := by omega
      subst ham1
      simp -implicitDefEqProofs only [syms, symx, seval, c174]
      obtain ⟨I2, hI2⟩ : ∃ I : Nat → Env → Heap → Prop, I = (fun n e h' => ∃ (k : Nat) (l1 : List AtomD) (h1 : Heap), h' = h1.lay [] h1.low ∧ Ext h h1 ∧ (n = i - 1 - k ∧ a ≤ k ∧ k ≤ i - 1 ∧ Mv l l1 a b ∧ UpTo l l1 a k ∧ Holds h1 A (.row (rowA l1) 26 false)) ∧ ∃ J : Nat → Value, e = (.slice (some ⟨A, 0, none⟩) l.length c :: jr J 1 9 (.int .i64 i :: jr J 11 2 (.int .i64 k :: jr J 14 206 ([]))))) := ⟨_, rfl⟩
      refine zas I2 _ (by rw [hI2]; exact ⟨a, l, _, rfl, z, ⟨rfl, by omega, by omega, Mv.refl l a b, zpG l a, q⟩, junk (by kernel_rfl)⟩) ?_
      intro n e h' hin
      rw [hI2] at hin
      obtain ⟨k, l1, h2', rfl, z, hinv, J, rfl⟩ := hin
      clear q
      obtain ⟨rfl, f1, f2, f3, f4, q⟩ := hinv
      have hl1 := f3.perm.length_eq
      have hwk : IntKind.i64.wrap ((k : Int) + 1) = ((k + 1 : Nat) : Int) := by rw [zae (by omega) (by omega)]; omega
      simp -implicitDefEqProofs only [syms, symx, seval, c174, hwi]
      refine zax (fun hki => ?_) (fun hki => ?_)
      rotate_left
      · have hki2 : k = i - 1 := by omega
        subst hki2
        repeat' ( simp -implicitDefEqProofs only [syms, symx, seval, c174])
        exact hk _ _ (z.upW _ _ (by omega)) (q.on _ _) f3 (zwW h2 (by omega) (by omega) hl0 hr0 f4)
      have hin : (0 : Int) ≤ (k : Int) ∧ (k : Int) < (l.length : Int) := by omega
      have hin1 : (0 : Int) ≤ ((k + 1 : Nat) : Int) ∧ ((k + 1 : Nat) : Int) < (l.length : Int) := by omega
      have hld := fun (bs : List Blk) (w : Nat) => zaL (bs := bs) (w := w) q (zaH (l := l1) (i := k) (by omega))
      have hld1 := fun (bs : List Blk) (w : Nat) => zaL (bs := bs) (w := w) q (zaH (l := l1) (i := k + 1) (by omega))
      simp -implicitDefEqProofs only [syms, symx, seval, c174]
      refine (zbU (by simp only [c174])) (z.upW _ _ (by omega)) ?_
      repeat' ( simp -implicitDefEqProofs only [syms, symx, seval, c174, hwk, hin, hin1, and_self, if_true, ↓hld, ↓hld1, zai])
      have hz := z.size
      refine zbz q sz26 (by omega) (fun h3 q3 c3 => ?_)
      refine zbS (A := A) (by kernel_rfl) (by rw [zad]; omega) (by omega) (by simpa only [zaq, zad, List.append_nil, List.length_cons, List.length_nil, Nat.add_zero] using c3) ?_
      replace z := (z.upW [] (h2'.size + 0) (by omega)).step c3 hA
      rw [zaa h3]
      clear q hld hld1
      repeat' ( simp -implicitDefEqProofs only [syms, symx, seval, c174, hwk, hin, hin1, and_self, if_true])
      refine zbz q3 sz26 (by rw [List.length_set]; omega) (fun h4 q4 c4 => ?_)
      have hz := z.size
      refine zbS (A := A) (by kernel_rfl) (by rw [zad]; omega) (by omega) (by simpa only [zaq, zad, List.append_nil, List.length_cons, List.length_nil, Nat.add_zero] using c4) ?_
      replace z := (z.upW [] (h3.size + 0) (by omega)).step c4 hA
      rw [zaa h4]
      clear q3
      repeat' (first | simp -implicitDefEqProofs only [syms, symx, seval, c174] | ((with_reducible refine ⟨z.grw.lay _ _, ?_⟩); (intro _ h' zz x _); (try simp only [zaq, List.append_nil] at x); (try replace q4 := q4.over x); (replace z := zz); (clear zz); rw [zaa h']))
      rw [hwk]
      replace q4 : Holds _ A (.row (rowA (zce l1 k (k + 1))) 26 false) := q4
      (rw [hI2]; with_reducible refine zac (m := _) ?_ ⟨k + 1, zce l1 k (k + 1), _, rfl, z, ⟨rfl, by omega, by omega, f3.trans (Mv.swap (by omega) (by omega) (by omega) (zxz (by omega) (ztm h2 g3 hl0 f1 (by omega) f4))), zrI f4 f1 (by omega), q4⟩, junk (by kernel_rfl)⟩; omega)
    obtain ⟨e1, e2, e3, e4⟩ := zfY i j (by omega)
    repeat' ( simp -implicitDefEqProofs only [syms, symx, seval, c174, e1])
    rw [zd1 rfl rfl rfl (zgC _) rfl, e2]
    simp -implicitDefEqProofs only [syms, symx, seval, c174, e1]
    rw [zgB (by decide), e4]
    simp -implicitDefEqProofs only [syms, symx, seval, c174, e1]
    rw [zd1 rfl rfl rfl (zgh _) rfl, e3]
    repeat' ( simp -implicitDefEqProofs only [syms, symx, seval, c174, e1])
    have hhm : i ≤ (i + j) / 2 ∧ (i + j) / 2 < j := by omega
    have hwh : IntKind.i64.wrap ((((i + j) / 2 : Nat) : Int) + 1) = (((i + j) / 2 + 1 : Nat) : Int) := by rw [zae (by omega) (by omega)]; omega
    generalize (i + j) / 2 = y at hhm hwh ⊢
    have hin : (0 : Int) ≤ (y : Int) ∧ (y : Int) < (l.length : Int) := by omega
    have hin1 : (0 : Int) ≤ (a : Int) ∧ (a : Int) < (l.length : Int) := by omega
    have hld := fun (bs : List Blk) (w : Nat) => zaL (bs := bs) (w := w) q (zaH (l := l) (i := y) (by omega))
    have hld1 := fun (bs : List Blk) (w : Nat) => zaL (bs := bs) (w := w) q (zaH (l := l) (i := a) (by omega))
    refine (zbU (by simp only [c174])) (z.upW _ _ (by omega)) ?_
    repeat' ( simp -implicitDefEqProofs only [syms, symx, seval, c174, hin, hin1, and_self, if_true, ↓hld, ↓hld1, zai])
    refine zgZ _ _ (zaP hlt (by omega)) (zaP hlt (by omega)) _ _ (fun h' x => ?_)
    (( ((with_reducible refine zaD ?_ ?_ ?_); (· exact (by (try simp only [lsz]); have := z.size; omega)); (·  exact x )) ); replace z := z.overW x (by (try simp only [lsz]); omega); (try replace q := q.over x); rw [zaa h'])
    simp -implicitDefEqProofs only [syms, symx, seval, c174]
    refine zax (fun hc => ?_) (fun hc => ?_)
    · repeat' (first | simp -implicitDefEqProofs only [syms, symx, seval, c174] | ((with_reducible refine ⟨z.grw.lay _ _, ?_⟩); (intro _ h' zz x _); (try simp only [zaq, List.append_nil] at x); (try replace q := q.over x); (replace z := zz); (clear zz); rw [zaa h']))
      rw [hwh]
      (rw [hI1]; with_reducible refine zac (m := _) ?_ ⟨y + 1, j, _, rfl, z, ⟨rfl, by omega, by omega, by omega, .inr (by rw [Nat.add_sub_cancel]; exact hc), g5, q⟩, junk (by kernel_rfl)⟩; omega)
    · repeat' (first | simp -implicitDefEqProofs only [syms, symx, seval, c174] | ((with_reducible refine ⟨z.grw.lay _ _, ?_⟩); (intro _ h' zz x _); (try simp only [zaq, List.append_nil] at x); (try replace q := q.over x); (replace z := zz); (clear zz); rw [zaa h']))
      (rw [hI1]; with_reducible refine zac (m := _) ?_ ⟨i, y, _, rfl, z, ⟨rfl, by omega, by omega, by omega, g4, .inr hc, q⟩, junk (by kernel_rfl)⟩; omega)
  simp -implicitDefEqProofs only [syms, symx, seval, c174, hw2]
  refine zda (fun hone2 => ?_) (fun hone2 => ?_)
  · -- Am.one element behind
    simp -implicitDefEqProofs only [syms, symx, seval, c174]
    obtain ⟨I3, hI3⟩ : ∃ I : Nat → Env → Heap → Prop, I = (fun n e h' => ∃ (i j : Nat) (h1 : Heap), h' = h1.lay [] h1.low ∧ Ext h h1 ∧ (n = j - i ∧ a ≤ i ∧ i ≤ j ∧ j ≤ m ∧ (i = a ∨ ¬ cmpD (l.getD m noAtomD) (l.getD (i - 1) noAtomD) < 0) ∧ (j = m ∨ cmpD (l.getD m noAtomD) (l.getD j noAtomD) < 0) ∧ Holds h1 A (.row (rowA l) 26 false)) ∧ ∃ J : Nat → Value, e = (.slice (some ⟨A, 0, none⟩) l.length c :: .int .i64 a :: .int .i64 m :: .int .i64 b :: .func (.func 98) ⟨[]⟩ ⟨[]⟩ :: jr J 5 9 (.int .i64 i :: .int .i64 j :: jr J 16 204 ([])))) := ⟨_, rfl⟩
    refine zas I3 _ (by rw [hI3]; exact ⟨a, m, _, rfl, z, ⟨rfl, by omega, by omega, by omega, .inl rfl, .inl rfl, q⟩, junk (by kernel_rfl)⟩) ?_
    intro n e h' hin
    rw [hI3] at hin
    obtain ⟨i, j, h1', rfl, z, hinv, J, rfl⟩ := hin
    clear q
    obtain ⟨rfl, g1, g2, g3, g4, g5, q⟩ := hinv
    simp -implicitDefEqProofs only [syms, symx, seval, c174]
    refine zax (fun hij => ?_) (fun hij => ?_)
    rotate_left
    · have hij2 : i = j := by omega
      subst hij2
      have hl0 := g4
      have hr0 := g5
      have hbm1 : b = m + 1 := by omega
      subst hbm1
      simp -implicitDefEqProofs only [syms, symx, seval, c174]
      obtain ⟨I4, hI4⟩ : ∃ I : Nat → Env → Heap → Prop, I = (fun n e h' => ∃ (k : Nat) (l1 : List AtomD) (h1 : Heap), h' = h1.lay [] h1.low ∧ Ext h h1 ∧ (n = k - i ∧ i ≤ k ∧ k ≤ m ∧ Mv l l1 a (m + 1) ∧ zlf l l1 m k ∧ Holds h1 A (.row (rowA l1) 26 false)) ∧ ∃ J : Nat → Value, e = (.slice (some ⟨A, 0, none⟩) l.length c :: jr J 1 13 (.int .i64 i :: jr J 15 2 (.int .i64 k :: jr J 18 202 ([]))))) := ⟨_, rfl⟩
      refine zas I4 _ (by rw [hI4]; exact ⟨m, l, _, rfl, z, ⟨rfl, by omega, by omega, Mv.refl l a _, zmK l m, q⟩, junk (by kernel_rfl)⟩) ?_
      intro n e h' hin
      rw [hI4] at hin
      obtain ⟨k, l1, h2', rfl, z, hinv, J, rfl⟩ := hin
      clear q
      obtain ⟨rfl, f1, f2, f3, f4, q⟩ := hinv
      have hl1 := f3.perm.length_eq
      simp -implicitDefEqProofs only [syms, symx, seval, c174]
      refine zax (fun hki => ?_) (fun hki => ?_)
      rotate_left
      · have hki2 : k = i := by omega
        subst hki2
        repeat' ( simp -implicitDefEqProofs only [syms, symx, seval, c174])
        exact hk _ _ (z.upW _ _ (by omega)) (q.on _ _) f3 (zuY h1 (by omega) (by omega) hl0 hr0 f4)
      have hwk : IntKind.i64.wrap ((k : Int) - 1) = ((k - 1 : Nat) : Int) := by rw [zae (by omega) (by omega)]; omega
      have hin : (0 : Int) ≤ (k : Int) ∧ (k : Int) < (l.length : Int) := by omega
      have hin1 : (0 : Int) ≤ ((k - 1 : Nat) : Int) ∧ ((k - 1 : Nat) : Int) < (l.length : Int) := by omega
      have hld := fun (bs : List Blk) (w : Nat) => zaL (bs := bs) (w := w) q (zaH (l := l1) (i := k) (by omega))
      have hld1 := fun (bs : List Blk) (w : Nat) => zaL (bs := bs) (w := w) q (zaH (l := l1) (i := k - 1) (by omega))
      simp -implicitDefEqProofs only [syms, symx, seval, c174]
      refine (zbU (by simp only [c174])) (z.upW _ _ (by omega)) ?_
      repeat' ( simp -implicitDefEqProofs only [syms, symx, seval, c174, hwk, hin, hin1, and_self, if_true, ↓hld, ↓hld1, zai])
      have hz := z.size
      refine zbz q sz26 (by omega) (fun h3 q3 c3 => ?_)
      refine zbS (A := A) (by kernel_rfl) (by rw [zad]; omega) (by omega) (by simpa only [zaq, zad, List.append_nil, List.length_cons, List.length_nil, Nat.add_zero] using c3) ?_
      replace z := (z.upW [] (h2'.size + 0) (by omega)).step c3 hA
      rw [zaa h3]
      clear q hld hld1
      repeat' ( simp -implicitDefEqProofs only [syms, symx, seval, c174, hwk, hin, hin1, and_self, if_true])
      refine zbz q3 sz26 (by rw [List.length_set]; omega) (fun h4 q4 c4 => ?_)
      have hz := z.size
      refine zbS (A := A) (by kernel_rfl) (by rw [zad]; omega) (by omega) (by simpa only [zaq, zad, List.append_nil, List.length_cons, List.length_nil, Nat.add_zero] using c4) ?_
      replace z := (z.upW [] (h3.size + 0) (by omega)).step c4 hA
      rw [zaa h4]
      clear q3
      repeat' (first | simp -implicitDefEqProofs only [syms, symx, seval, c174] | ((with_reducible refine ⟨z.grw.lay _ _, ?_⟩); (intro _ h' zz x _); (try simp only [zaq, List.append_nil] at x); (try replace q4 := q4.over x); (replace z := zz); (clear zz); rw [zaa h']))
      rw [hwk]
      replace q4 : Holds _ A (.row (rowA (zce l1 k (k - 1))) 26 false) := q4
      (rw [hI4]; with_reducible refine zac (m := _) ?_ ⟨k - 1, zce l1 k (k - 1), _, rfl, z, ⟨rfl, by omega, by omega, f3.trans (Mv.swap (by omega) (by omega) (by omega) (zle (by omega) (by omega) (zm4 h1 g1 hr0 (by omega) f2 f4))), zm0 f4 (by omega) f2 (by omega), q4⟩, junk (by kernel_rfl)⟩; omega)
    obtain ⟨e1, e2, e3, e4⟩ := zfY i j (by omega)
    repeat' ( simp -implicitDefEqProofs only [syms, symx, seval, c174, e1])
    rw [zd1 rfl rfl rfl (zgC _) rfl, e2]
    simp -implicitDefEqProofs only [syms, symx, seval, c174, e1]
    rw [zgB (by decide), e4]
    simp -implicitDefEqProofs only [syms, symx, seval, c174, e1]
    rw [zd1 rfl rfl rfl (zgh _) rfl, e3]
    repeat' ( simp -implicitDefEqProofs only [syms, symx, seval, c174, e1])
    have hhm : i ≤ (i + j) / 2 ∧ (i + j) / 2 < j := by omega
    have hwh : IntKind.i64.wrap ((((i + j) / 2 : Nat) : Int) + 1) = (((i + j) / 2 + 1 : Nat) : Int) := by rw [zae (by omega) (by omega)]; omega
    generalize (i + j) / 2 = y at hhm hwh ⊢
    have hin : (0 : Int) ≤ (y : Int) ∧ (y : Int) < (l.length : Int) := by omega
    have hin1 : (0 : Int) ≤ (m : Int) ∧ (m : Int) < (l.length : Int) := by omega
    have hld := fun (bs : List Blk) (w : Nat) => zaL (bs := bs) (w := w) q (zaH (l := l) (i := y) (by omega))
    have hld1 := fun (bs : List Blk) (w : Nat) => zaL (bs := bs) (w := w) q (zaH (l := l) (i := m) (by omega))
    refine (zbU (by simp only [c174])) (z.upW _ _ (by omega)) ?_
    repeat' ( simp -implicitDefEqProofs only [syms, symx, seval, c174, hin, hin1, and_self, if_true, ↓hld, ↓hld1, zai])
    refine zgZ _ _ (zaP hlt (by omega)) (zaP hlt (by omega)) _ _ (fun h' x => ?_)
    (( ((with_reducible refine zaD ?_ ?_ ?_); (· exact (by (try simp only [lsz]); have := z.size; omega)); (·  exact x )) ); replace z := z.overW x (by (try simp only [lsz]); omega); (try replace q := q.over x); rw [zaa h'])
    simp -implicitDefEqProofs only [syms, symx, seval, c174]
    refine zax (fun hc => ?_) (fun hc => ?_)
    · repeat' (first | simp -implicitDefEqProofs only [syms, symx, seval, c174] | ((with_reducible_and_instances apply zaf); (· rfl)) | ((with_reducible refine ⟨z.grw.lay _ _, ?_⟩); (intro _ h' zz x _); (try simp only [zaq, List.append_nil] at x); (try replace q := q.over x); (replace z := zz); (clear zz); rw [zaa h']))
      (rw [hI3]; with_reducible refine zac (m := _) ?_ ⟨i, y, _, rfl, z, ⟨rfl, by omega, by omega, by omega, g4, .inr hc, q⟩, junk (by kernel_rfl)⟩; omega)
    · repeat' (first | simp -implicitDefEqProofs only [syms, symx, seval, c174] | ((with_reducible_and_instances apply zaf); (· rfl)) | ((with_reducible refine ⟨z.grw.lay _ _, ?_⟩); (intro _ h' zz x _); (try simp only [zaq, List.append_nil] at x); (try replace q := q.over x); (replace z := zz); (clear zz); rw [zaa h']))
      rw [hwh]
      (rw [hI3]; with_reducible refine zac (m := _) ?_ ⟨y + 1, j, _, rfl, z, ⟨rfl, by omega, by omega, by omega, .inr (by rw [Nat.add_sub_cancel]; exact hc), g5, q⟩, junk (by kernel_rfl)⟩; omega)
  -- both parts longer
  obtain ⟨e1, e2, e3, e4⟩ := zfY a b (by omega)
  repeat' ( simp -implicitDefEqProofs only [syms, symx, seval, c174, e1])
  rw [zd1 rfl rfl rfl (zgC _) rfl, e2]
  simp -implicitDefEqProofs only [syms, symx, seval, c174, e1]
  rw [zgB (by decide), e4]
  simp -implicitDefEqProofs only [syms, symx, seval, c174, e1]
  rw [zd1 rfl rfl rfl (zgh _) rfl, e3]
  have hm1 : 2 * ((a + b) / 2) ≤ a + b := by omega
  have hm2 : a + b ≤ 2 * ((a + b) / 2) + 1 := by omega
  generalize (a + b) / 2 = mid at hm1 hm2 ⊢
  have hwn : IntKind.i64.wrap ((mid : Int) + (m : Int)) = ((mid + m : Nat) : Int) := by rw [zae (by omega) (by omega)]; omega
  have hwp : IntKind.i64.wrap (((mid + m : Nat) : Int) - 1) = ((mid + m - 1 : Nat) : Int) := by rw [zae (by omega) (by omega)]; omega
  have hwb : mid < m → IntKind.i64.wrap (((mid + m : Nat) : Int) - (b : Int)) = ((mid + m - b : Nat) : Int) := fun _ => by rw [zae (by omega) (by omega)]; omega
  simp -implicitDefEqProofs only [syms, symx, seval, c174, hwn]
  refine zax (fun hgm => ?_) (fun hgm => ?_)
  focus
    have hwb := hwb (by omega)
    simp -implicitDefEqProofs only [syms, symx, seval, c174, hwn, hwb, hwp]
    have hinit := zuO (l := l) (a := a) hmb (show mid < m by omega)
  rotate_left
  focus
    simp -implicitDefEqProofs only [syms, symx, seval, c174, hwn, hwp]
    have hinit := zvk (l := l) (b := b) ham (show m ≤ mid by omega)
  all_goals
    obtain ⟨I5, hI5⟩ : ∃ I : Nat → Env → Heap → Prop, I = (fun n e h' => ∃ (s r : Nat) (h1 : Heap), h' = h1.lay [] h1.low ∧ Ext h h1 ∧ (n = r - s ∧ SymInv l a m b mid s r ∧ Holds h1 A (.row (rowA l) 26 false)) ∧ ∃ J : Nat → Value, e = (.slice (some ⟨A, 0, none⟩) l.length c :: .int .i64 a :: .int .i64 m :: .int .i64 b :: .func (.func 98) ⟨[]⟩ ⟨[]⟩ :: jr J 5 13 (.int .i64 mid :: .int .i64 ((mid + m : Nat) : Int) :: .int .i64 s :: .int .i64 r :: .int .i64 ((mid + m - 1 : Nat) : Int) :: jr J 23 197 ([])))) := ⟨_, rfl⟩
    refine zas I5 _ (by rw [hI5]; exact ⟨_, _, _, rfl, z, ⟨rfl, hinit, q⟩, junk (by kernel_rfl)⟩) ?_
    intro n e h' hin
    rw [hI5] at hin
    obtain ⟨s, r, h1', rfl, z, hinv, J, rfl⟩ := hin
    clear q hinit
    obtain ⟨rfl, hinv, q⟩ := hinv
    simp -implicitDefEqProofs only [syms, symx, seval, c174]
    refine zax (fun hsr => ?_) (fun hsr => ?_)
    rotate_left
    · have hsr2 : s = r := by have := hinv.sr; omega
      subst hsr2
      have sp := zjy hinv ham hmb hm1 hm2
      obtain ⟨p1, p2, p3, p4, p5, _, _⟩ := sp
      have sp := zjy hinv ham hmb hm1 hm2
      have hwe : IntKind.i64.wrap (((mid + m : Nat) : Int) - (s : Int)) = ((mid + m - s : Nat) : Int) := by rw [zae (by omega) (by omega)]; omega
      simp -implicitDefEqProofs only [syms, symx, seval, nilK (rops (N174 107)) 3 rfl, zx9 (N174 108) (N174 109) (N174 110) rfl, zyu (N174 110) rfl]
      rw [seqK (N174 119) (N174 120) (N174 121) rfl]
      obtain ⟨R6, hR6⟩ : ∃ R : Env → Heap → Prop, R = (fun e h' => ∃ (h1 : Heap), h' = h1.lay [] h1.low ∧ Ext h h1 ∧ (Holds h1 A (.row (rowA l) 26 false)) ∧ ∃ J : Nat → Value, e = (.slice (some ⟨A, 0, none⟩) l.length c :: .int .i64 a :: .int .i64 m :: .int .i64 b :: .func (.func 98) ⟨[]⟩ ⟨[]⟩ :: jr J 5 13 (.int .i64 mid :: J 19 :: .int .i64 s :: jr J 21 3 (.int .i64 ((mid + m - s : Nat) : Int) :: jr J 25 195 ([])))) ∧ True) := ⟨_, rfl⟩
      refine zxW R6 ?cut ?rest
      case' rest =>
        intro e h' hin
        rw [hR6] at hin
        obtain ⟨h2', rfl, z, hinv, J, rfl, _⟩ := hin
      case cut =>
        simp -implicitDefEqProofs only [syms, symx, seval, c174, hwe]
        (( skip); rw [hR6]; exact ⟨_, rfl, z, q, ztv (by kernel_rfl) (trivial)⟩)
      case rest =>
      have q := hinv
      simp -implicitDefEqProofs only [syms, symx, seval]
      rw [seqK (N174 121) (N174 122) (N174 127) rfl]
      obtain ⟨R7, hR7⟩ : ∃ R : Env → Heap → Prop, R = (fun e h' => ∃ (l1 : List AtomD) (h1 : Heap), h' = h1.lay [] h1.low ∧ Ext h h1 ∧ (Mv l l1 s (mid + m - s) ∧ zlr l l1 s m (mid + m - s) ∧ Holds h1 A (.row (rowA l1) 26 false)) ∧ ∃ J : Nat → Value, e = (.slice (some ⟨A, 0, none⟩) l.length c :: .int .i64 a :: .int .i64 m :: .int .i64 b :: .func (.func 98) ⟨[]⟩ ⟨[]⟩ :: jr J 5 13 (.int .i64 mid :: J 19 :: .int .i64 s :: jr J 21 3 (.int .i64 ((mid + m - s : Nat) : Int) :: jr J 25 195 ([])))) ∧ True) := ⟨_, rfl⟩
      refine zxW R7 ?cut ?rest
      case' rest =>
        intro e h' hin
        rw [hR7] at hin
        obtain ⟨l1, h3', rfl, z, hinv, J, rfl, _⟩ := hin
      case cut =>
        repeat' (first | simp -implicitDefEqProofs only [syms, symx, seval, c174] | ((with_reducible  apply zax ) <;> intro _))
        all_goals first
          | (( skip); rw [hR7]; exact ⟨l, _, rfl, z, ⟨Mv.refl _ _ _, zuf (by omega) (by omega) (by omega), q⟩, ztv (by kernel_rfl) (trivial)⟩)
          | (refine zs5 l A c s m (mid + m - s) _ h _ (z.upW _ _ (by omega)) hA (q.on _ _) (by omega) (by omega) (by omega) hn _ (fun h' x q1 hp1 => ?_)
             replace z := x
             rw [zaa h']
             simp -implicitDefEqProofs only [syms, symx, seval, c174]
             (( skip); rw [hR7]; exact ⟨ziV l s m (mid + m - s), _, rfl, z, ⟨zv4 (fun k => zfQ (by omega) k) (by omega) (by omega) hp1 (zqo h1 h2 sp (fun k => zfQ (by omega) k) (by omega) hp1.length_eq), fun k => zfQ (by omega) k, q1⟩, ztv (by kernel_rfl) (trivial)⟩))
      case rest =>
      obtain ⟨mv1, t1, q⟩ := hinv
      obtain ⟨so1, so2, so3, so4⟩ := znZ h1 h2 sp t1
      have hcr := fun (i j : Nat) (g1 : a ≤ i) (g2 : i < mid) (g3 : mid ≤ j) (g4 : j < b) => znl h1 h2 sp t1 g1 g2 g3 g4
      have hl1 := mv1.perm.length_eq
      simp -implicitDefEqProofs only [syms, symx, seval]
      rw [seqK (N174 127) (N174 128) (N174 133) rfl]
      obtain ⟨R8, hR8⟩ : ∃ R : Env → Heap → Prop, R = (fun e h' => ∃ (l2 : List AtomD) (h1 : Heap), h' = h1.lay [] h1.low ∧ Ext h h1 ∧ (Mv l1 l2 a mid ∧ zaE l2 a mid ∧ Holds h1 A (.row (rowA l2) 26 false)) ∧ ∃ J : Nat → Value, e = (.slice (some ⟨A, 0, none⟩) l.length c :: .int .i64 a :: .int .i64 m :: .int .i64 b :: .func (.func 98) ⟨[]⟩ ⟨[]⟩ :: jr J 5 13 (.int .i64 mid :: J 19 :: .int .i64 s :: jr J 21 3 (.int .i64 ((mid + m - s : Nat) : Int) :: jr J 25 195 ([])))) ∧ True) := ⟨_, rfl⟩
      refine zxW R8 ?cut ?rest
      case' rest =>
        intro e h' hin
        rw [hR8] at hin
        obtain ⟨l2, h4', rfl, z, hinv, J, rfl, _⟩ := hin
      case cut =>
        repeat' (first | simp -implicitDefEqProofs only [syms, symx, seval, c174] | ((with_reducible  apply zax ) <;> intro _))
        all_goals first
          | (( skip); rw [hR8]; exact ⟨l1, _, rfl, z, ⟨Mv.refl _ _ _, (by first | (have e : s = mid := by omega); rw [← e]; exact so1 | (have e : a = s := by omega); rw [e]; exact so2), q⟩, ztv (by kernel_rfl) (trivial)⟩)
          | (have key := ih l1 A c a s mid h (h3'.lay [] h3'.low) (z.upW _ _ (by omega)) hA (q.on _ _) (by omega) (by omega) (by omega) (by omega) (by omega) (zb4 hlt mv1.perm) so1 so2
             simp only [hl1] at key
             refine key _ (fun h' l2 x q1 mv2 so5 => ?_)
             replace z := x
             rw [zaa h']
             simp -implicitDefEqProofs only [syms, symx, seval, c174]
             (( skip); rw [hR8]; exact ⟨l2, _, rfl, z, ⟨mv2, so5, q1⟩, ztv (by kernel_rfl) (trivial)⟩))
      case rest =>
      obtain ⟨mv2, so5, q⟩ := hinv
      have hl2 := mv2.perm.length_eq
      have so6 := zdg so3 (fun k g1 g2 => mv2.out k (.inr g1))
      have so7 := zdg so4 (fun k g1 g2 => mv2.out k (.inr (by omega)))
      have mvT := (mv1.widen p1 p5).trans (mv2.widen (Nat.le_refl _) (show mid ≤ b by omega))
      repeat' (first | simp -implicitDefEqProofs only [syms, symx, seval, c174] | ((with_reducible  apply zax ) <;> intro _))
      all_goals first
        | exact hk _ l2 (z.upW _ _ (by omega)) (q.on _ _) mvT (zly hcr mv2 (Mv.refl l2 mid b) so5 (by first | (have e : mid = mid + m - s := by omega); rw [e]; exact so7 | (have e : mid + m - s = b := by omega); rw [← e]; exact so6))
        | (have key := ih l2 A c mid (mid + m - s) b h (h4'.lay [] h4'.low) (z.upW _ _ (by omega)) hA (q.on _ _) (by omega) (by omega) (by omega) (by omega) (by omega) (zb4 (zb4 hlt mv1.perm) mv2.perm) so6 so7
           simp only [hl2, hl1] at key
           refine key _ (fun h' l3 x q1 mv3 so8 => ?_)
           rw [zaa h']
           repeat' ( simp -implicitDefEqProofs only [syms, symx, seval, c174])
           exact hk _ l3 (x.upW _ _ (by omega)) (q1.on _ _) (mvT.trans (mv3.widen (show a ≤ mid by omega) (Nat.le_refl _))) (zly hcr mv2 mv3 so5 so8))
    have hrl : r ≤ l.length := by
      rcases Nat.lt_or_ge mid m with g | g
      · have := hinv.le2 g; omega
      · have := hinv.le1 g; omega
    obtain ⟨e1, e2, e3, e4⟩ := zfY s r (by omega)
    repeat' ( simp -implicitDefEqProofs only [syms, symx, seval, c174, e1])
    rw [zd1 rfl rfl rfl (zgC _) rfl, e2]
    simp -implicitDefEqProofs only [syms, symx, seval, c174, e1]
    rw [zgB (by decide), e4]
    simp -implicitDefEqProofs only [syms, symx, seval, c174, e1]
    rw [zd1 rfl rfl rfl (zgh _) rfl, e3]
    repeat' ( simp -implicitDefEqProofs only [syms, symx, seval, c174, e1])
    have hhm : s ≤ (s + r) / 2 ∧ (s + r) / 2 < r := by omega
    have hwh : IntKind.i64.wrap ((((s + r) / 2 : Nat) : Int) + 1) = (((s + r) / 2 + 1 : Nat) : Int) := by rw [zae (by omega) (by omega)]; omega
    generalize (s + r) / 2 = y at hhm hwh ⊢
    have hix := zt0 hinv hhm.1 hhm.2 ham hmb hm1 hm2
    have hwpc : IntKind.i64.wrap (((mid + m - 1 : Nat) : Int) - (y : Int)) = ((mid + m - 1 - y : Nat) : Int) := by rw [zae (by omega) (by omega)]; omega
    have hin : (0 : Int) ≤ (y : Int) ∧ (y : Int) < (l.length : Int) := by omega
    have hin1 : (0 : Int) ≤ ((mid + m - 1 - y : Nat) : Int) ∧ ((mid + m - 1 - y : Nat) : Int) < (l.length : Int) := by omega
    have hld := fun (bs : List Blk) (w : Nat) => zaL (bs := bs) (w := w) q (zaH (l := l) (i := y) (by omega))
    have hld1 := fun (bs : List Blk) (w : Nat) => zaL (bs := bs) (w := w) q (zaH (l := l) (i := mid + m - 1 - y) (by omega))
    refine (zbU (by simp only [c174])) (z.upW _ _ (by omega)) ?_
    repeat' ( simp -implicitDefEqProofs only [syms, symx, seval, c174, hwpc, hin, hin1, and_self, if_true, ↓hld, ↓hld1, zai])
    refine zgZ _ _ (zaP hlt (by omega)) (zaP hlt (by omega)) _ _ (fun h' x => ?_)
    (( ((with_reducible refine zaD ?_ ?_ ?_); (· exact (by (try simp only [lsz]); have := z.size; omega)); (·  exact x )) ); replace z := z.overW x (by (try simp only [lsz]); omega); (try replace q := q.over x); rw [zaa h'])
    simp -implicitDefEqProofs only [syms, symx, seval, c174]
    refine zax (fun hc => ?_) (fun hc => ?_)
    · repeat' (first | simp -implicitDefEqProofs only [syms, symx, seval, c174] | ((with_reducible_and_instances apply zaf); (· rfl)) | ((with_reducible refine ⟨z.grw.lay _ _, ?_⟩); (intro _ h' zz x _); (try simp only [zaq, List.append_nil] at x); (try replace q := q.over x); (replace z := zz); (clear zz); rw [zaa h']))
      (rw [hI5]; with_reducible refine zac (m := _) ?_ ⟨s, y, _, rfl, z, ⟨rfl, zn3 hinv hhm.1 hhm.2 hc, q⟩, junk (by kernel_rfl)⟩; omega)
    · repeat' (first | simp -implicitDefEqProofs only [syms, symx, seval, c174] | ((with_reducible_and_instances apply zaf); (· rfl)) | ((with_reducible refine ⟨z.grw.lay _ _, ?_⟩); (intro _ h' zz x _); (try simp only [zaq, List.append_nil] at x); (try replace q := q.over x); (replace z := zz); (clear zz); rw [zaa h']))
      rw [hwh]
      (rw [hI5]; with_reducible refine zac (m := _) ?_ ⟨y + 1, r, _, rfl, z, ⟨rfl, ztF hinv hhm.1 hhm.2 hc, q⟩, junk (by kernel_rfl)⟩; omega)
theorem zwH : ∀ sz, zwx sz
  | 0 => by intro l A c a m b h hs z hA q h1 h2 h3; omega
  | sz + 1 => zqY sz (zwH sz)
theorem zt4 (l : List AtomD) (A c : Nat) (h hs : Heap) (z : Ext h hs) (hA : h.size ≤ A) (q : Holds hs A (.row (rowA l) 26 false)) (hn : l.length ≤ 100000) (hlt : ∀ x ∈ l, x.light = true) (K : Value → Heap → Prop)
    (hk : ∀ h' l', Ext h h' → Holds h' A (.row (rowA l') 26 false) → l'.Perm l → Stab l l' → zaE l' 0 l.length → K undef h') : Ok Tryz.prog tab ov 134 [.slice (some ⟨A, 0, none⟩) l.length c, .int .i64 l.length, .func (.func 98) ⟨[]⟩ ⟨[]⟩] hs K := by
  rw [zaa hs]
  refine Ok.into rfl zlW (zay N134) rfl (m := 60) rfl ?_
  simp -implicitDefEqProofs only [syms, symx, seval, c134]
  obtain ⟨I1, hI1⟩ : ∃ I : Nat → Env → Heap → Prop, I = (fun n e h' => ∃ (a : Nat) (l1 : List AtomD) (h1 : Heap), h' = h1.lay [] h1.low ∧ Ext h h1 ∧ (n = l.length - a ∧ a % 20 = 0 ∧ a ≤ l.length ∧ l1.Perm l ∧ Stab l l1 ∧ Bl l1 20 l.length a ∧ Holds h1 A (.row (rowA l1) 26 false)) ∧ ∃ J : Nat → Value, e = (.slice (some ⟨A, 0, none⟩) l.length c :: .int .i64 l.length :: .func (.func 98) ⟨[]⟩ ⟨[]⟩ :: jr J 3 3 (.int .i64 20 :: .int .i64 a :: .int .i64 (a + 20 : Nat) :: jr J 9 54 ([])))) := ⟨_, rfl⟩
  refine zas I1 _ (by rw [hI1]; exact ⟨0, l, _, rfl, z, ⟨rfl, by omega, by omega, List.Perm.refl _, Stab.refl _, fun k _ hk => absurd hk (by omega), q⟩, junk (by kernel_rfl)⟩) ?_
  intro n e h' hin
  rw [hI1] at hin
  obtain ⟨a, l1, h1', rfl, z, hinv, J, rfl⟩ := hin
  clear q
  obtain ⟨rfl, ha20, han, hp, hst, hbl, q⟩ := hinv
  have hl1 := hp.length_eq
  have hlt1 := zb4 hlt hp
  simp -implicitDefEqProofs only [syms, symx, seval, c134]
  refine zax (fun hle => ?_) (fun hle => ?_)
  · have hw1 : IntKind.i64.wrap (((a + 20 : Nat) : Int) + 20) = ((a + 20 + 20 : Nat) : Int) := by rw [zae (by omega) (by omega)]; omega
    repeat' ( simp -implicitDefEqProofs only [syms, symx, seval, c134])
    have key := fun K hk => zgY l1 A c a (a + 20) h (h1'.lay [] h1'.low) (z.upW _ _ (by omega)) hA (q.on _ _) (by omega) (by omega) (by omega) hlt1 K hk
    simp only [hl1] at key
    refine key _ (fun h' l' x q' hp' hst' hs' ho' => ?_)
    replace z := x
    rw [zaa h']
    repeat' ( simp -implicitDefEqProofs only [syms, symx, seval, c134, hw1])
    (rw [hI1]; with_reducible refine zac (m := _) ?_ ⟨a + 20, l', _, rfl, z, ⟨rfl, by omega, by omega, hp'.trans hp, hst.trans hst', zny hbl ha20 (by rw [show min (a + 20) l.length = a + 20 by omega]; exact hs') (by rw [show min (a + 20) l.length = a + 20 by omega]; exact ho') _ (by omega), q'⟩, junk (by kernel_rfl)⟩; omega)
  repeat' ( simp -implicitDefEqProofs only [syms, symx, seval, c134])
  have key := fun K hk => zgY l1 A c a l.length h (h1'.lay [] h1'.low) (z.upW _ _ (by omega)) hA (q.on _ _) (by omega) (by omega) (by omega) hlt1 K hk
  simp only [hl1] at key
  refine key _ (fun h' l' x q' hp' hst' hs' ho' => ?_)
  replace z := x
  replace hp := hp'.trans hp
  replace hst := hst.trans hst'
  replace hbl : Bl l' 20 l.length l.length := zny hbl ha20 (by rw [show min (a + 20) l.length = l.length by omega]; exact hs') (by rw [show min (a + 20) l.length = l.length by omega]; exact ho') _ (by omega)
  clear key hs' ho' hp' hst' hl1 hlt1 q
  rw [zaa h']
  repeat' ( simp -implicitDefEqProofs only [syms, symx, seval, c134])
  obtain ⟨I2, hI2⟩ : ∃ I : Nat → Env → Heap → Prop, I = (fun n e h' => ∃ (w : Nat) (l1 : List AtomD) (h1 : Heap), h' = h1.lay [] h1.low ∧ Ext h h1 ∧ (n = l.length - w ∧ 20 ≤ w ∧ w ≤ 200000 ∧ l1.Perm l ∧ Stab l l1 ∧ Bl l1 w l.length l.length ∧ Holds h1 A (.row (rowA l1) 26 false)) ∧ ∃ J : Nat → Value, e = (.slice (some ⟨A, 0, none⟩) l.length c :: .int .i64 l.length :: .func (.func 98) ⟨[]⟩ ⟨[]⟩ :: jr J 3 3 (.int .i64 w :: jr J 7 56 ([])))) := ⟨_, rfl⟩
  refine zas I2 _ (by rw [hI2]; exact ⟨20, l', _, rfl, z, ⟨rfl, by omega, by omega, hp, hst, hbl, q'⟩, junk (by kernel_rfl)⟩) ?_
  intro n e h' hin
  rw [hI2] at hin
  obtain ⟨w, l1, h2', rfl, z, hinv, J, rfl⟩ := hin
  clear q' hbl hp hst
  obtain ⟨rfl, hw20, hw2k, hp, hst, hbl, q⟩ := hinv
  simp -implicitDefEqProofs only [syms, symx, seval, c134]
  refine zax (fun hlt2 => ?_) (fun hlt2 => ?_)
  rotate_left
  · repeat' ( simp -implicitDefEqProofs only [syms, symx, seval, c134])
    exact hk _ _ (z.upW _ _ (by omega)) (q.on _ _) hp hst (zx6 hbl (by omega))
  have hm2 : IntKind.i64.wrap ((2 : Int) * (w : Int)) = ((2 * w : Nat) : Int) := by rw [zae (by omega) (by omega)]; omega
  repeat' ( simp -implicitDefEqProofs only [syms, symx, seval, c134, hm2, zkO])
  obtain ⟨I3, hI3⟩ : ∃ I : Nat → Env → Heap → Prop, I = (fun n e h' => ∃ (a b : Nat) (l2 : List AtomD) (h1 : Heap), h' = h1.lay [] h1.low ∧ Ext h h1 ∧ (n = l.length - a ∧ b = a + 2 * w ∧ a % (2 * w) = 0 ∧ a ≤ l.length ∧ l2.Perm l ∧ Stab l l2 ∧ Dbl l2 w l.length a ∧ Holds h1 A (.row (rowA l2) 26 false)) ∧ ∃ J : Nat → Value, e = (.slice (some ⟨A, 0, none⟩) l.length c :: .int .i64 l.length :: .func (.func 98) ⟨[]⟩ ⟨[]⟩ :: jr J 3 3 (.int .i64 w :: .int .i64 a :: .int .i64 b :: jr J 9 54 ([])))) := ⟨_, rfl⟩
  refine zas I3 _ (by rw [hI3]; exact ⟨0, 2 * w, l1, _, rfl, z, ⟨rfl, by omega, Nat.zero_mod _, by omega, hp, hst, zsV hbl, q⟩, junk (by kernel_rfl)⟩) ?_
  intro n e h' hin
  rw [hI3] at hin
  obtain ⟨a, b, l2, h3', rfl, z, hinv, J, rfl⟩ := hin
  clear q hbl hp hst
  obtain ⟨rfl, hb, hamod, han, hp, hst, hdb, q⟩ := hinv
  have hl2 := hp.length_eq
  have hlt3 := zb4 hlt hp
  have haw : IntKind.i64.wrap ((a : Int) + (w : Int)) = ((a + w : Nat) : Int) := by rw [zae (by omega) (by omega)]; omega
  simp -implicitDefEqProofs only [syms, symx, seval, c134]
  refine zax (fun hle => ?_) (fun hle => ?_)
  · have hbw : IntKind.i64.wrap ((b : Int) + ((2 * w : Nat) : Int)) = ((b + 2 * w : Nat) : Int) := by rw [zae (by omega) (by omega)]; omega
    have hpa := zk7 hdb (by omega) hamod (by omega)
    rw [show min (a + 2 * w) l.length = b by omega] at hpa
    repeat' ( simp -implicitDefEqProofs only [syms, symx, seval, c134, haw])
    have key := fun K hk => zwH l.length l2 A c a (a + w) b h (h3'.lay [] h3'.low) (z.upW _ _ (by omega)) hA (q.on _ _) (by omega) (by omega) (by omega) (by omega) (by omega) hlt3 hpa.1 hpa.2 K hk
    simp only [hl2] at key
    refine key _ (fun h' l' x q' hm' hs' => ?_)
    replace z := x
    rw [zaa h']
    repeat' ( simp -implicitDefEqProofs only [syms, symx, seval, c134, hm2, zkO, hbw])
    have hstep := zoJ (l' := l') hdb (by omega) hamod (by rw [show min (a + 2 * w) l.length = b by omega]; exact hs') (by rw [show min (a + 2 * w) l.length = b by omega]; exact hm')
    rw [show min (a + 2 * w) l.length = b by omega] at hstep
    (rw [hI3]; with_reducible refine zac (m := _) ?_ ⟨b, b + 2 * w, l', _, rfl, z, ⟨rfl, by omega, by rw [hb, Nat.add_mod_right]; exact hamod, by omega, hm'.perm.trans hp, hst.trans hm'.stab, hstep, q'⟩, junk (by kernel_rfl)⟩; omega)
  have hw2 : IntKind.i64.wrap ((w : Int) * (2 : Int)) = ((2 * w : Nat) : Int) := by rw [zae (by omega) (by omega)]; omega
  repeat' (first | simp -implicitDefEqProofs only [syms, symx, seval, c134, haw] | ((with_reducible  apply zax ) <;> intro _))
  · have hpa := zk7 hdb (by omega) hamod (by omega)
    rw [show min (a + 2 * w) l.length = l.length by omega] at hpa
    have key := fun K hk => zwH l.length l2 A c a (a + w) l.length h (h3'.lay [] h3'.low) (z.upW _ _ (by omega)) hA (q.on _ _) (by omega) (by omega) (by omega) (by omega) (by omega) hlt3 hpa.1 hpa.2 K hk
    simp only [hl2] at key
    refine key _ (fun h' l' x q' hm' hs' => ?_)
    replace z := x
    rw [zaa h']
    repeat' ( simp -implicitDefEqProofs only [syms, symx, seval, c134, hw2, zkO])
    have hstep := zoJ (l' := l') hdb (by omega) hamod (by rw [show min (a + 2 * w) l.length = l.length by omega]; exact hs') (by rw [show min (a + 2 * w) l.length = l.length by omega]; exact hm')
    rw [show min (a + 2 * w) l.length = l.length by omega] at hstep
    (rw [hI2]; with_reducible refine zac (m := _) ?_ ⟨2 * w, l', _, rfl, z, ⟨rfl, by omega, by omega, hm'.perm.trans hp, hst.trans hm'.stab, zxn hstep (by omega), q'⟩, junk (by kernel_rfl)⟩; omega)
  · repeat' ( simp -implicitDefEqProofs only [syms, symx, seval, c134, hw2, zkO])
    (rw [hI2]; with_reducible refine zac (m := _) ?_ ⟨2 * w, l2, _, rfl, z, ⟨rfl, by omega, by omega, hp, hst, zxZ hdb (by omega) hamod (by omega), q⟩, junk (by kernel_rfl)⟩; omega)
theorem zj2 (l : List AtomD) (A c : Nat) (h hs : Heap) (z : Ext h hs) (hA : h.size ≤ A) (q : Holds hs A (.row (rowA l) 26 false)) (hn : l.length ≤ 100000) (hlt : ∀ x ∈ l, x.light = true) (K : Value → Heap → Prop)
    (hk : ∀ h' l', Ext h h' → Holds h' A (.row (rowA l') 26 false) → l'.Perm l → Stab l l' → zaE l' 0 l.length → K undef h') : Ok Tryz.prog tab ov 97 [.slice (some ⟨A, 0, none⟩) l.length c, .func (.func 98) ⟨[]⟩ ⟨[]⟩] hs K := by
  rw [zaa hs]
  refine Ok.into rfl zos (zay N97) rfl (m := 7) rfl ?_
  repeat' ( simp -implicitDefEqProofs only [syms, symx, seval, c97])
  refine zt4 l A c h (hs.lay [] hs.low) (z.upW _ _ (by omega)) hA (q.on _ _) hn hlt _ (fun h' l' x q' hp' hst' hs' => ?_)
  rw [zaa h']
  repeat' ( simp -implicitDefEqProofs only [syms, symx, seval, c97])
  exact hk _ _ (x.upW _ _ (by omega)) (q'.on _ _) hp' hst' hs'
theorem zoZ {h : Heap} {v : Value} {l : List AtomD} (f : Sl Rep.atom h v l) : ∃ b : Bool, binA Tryz.prog tab .eql 27 v (.slice none 0 0) = some (.bool b) ∧ (b = true → l = []) := by
  rcases f with ⟨rfl, rfl⟩ | ⟨A, o, c, row, u, ro, rfl, _⟩
  · exact ⟨true, by kernel_rfl, fun _ => rfl⟩
  · exact ⟨false, by kernel_rfl, nofun⟩
theorem zlT (l : List AtomD) (v : Value) (h : Heap) (hl : Sl Rep.atom h v l) (hs : l.length ≤ 100000) (K : Value → Heap → Prop)
    (hk : ∀ h' w, Ext h h' → OwnX h h' 26 w l → K w h') : Ok Tryz.prog tab ov 56 [v] h K := by
  rw [zaa h]
  obtain ⟨b, hb, hnil⟩ := zoZ hl
  refine Ok.into rfl zoq (zay N56) rfl (m := 7) rfl ?_
  simp -implicitDefEqProofs only [syms, symx, seval, c56, hb]
  cases b
  · simp -implicitDefEqProofs only [syms, symx, seval, c56, zbM, zp1]
    obtain ⟨news, hs, hsr⟩ := zhj (A := h.size + 1) (r := Rep.atom) (by decide) (hl.lay [.row [] 26 false] h.low) (fun cs y hr => hr)
    have f : Ow Rep.atom h (h.lay [.row [] 26 false] h.low) 26 (h.size + 1) (.slice (some ⟨h.size + 0, 0, none⟩) 0 0) [] :=
      .inl ⟨by omega, rfl, .inr ⟨h.size + 0, 0, rfl, by omega, by rw [zad]; simp, [], 26, false, by rw [za5]; rfl⟩⟩
    obtain ⟨w, h', A', e1, e2, e3, e4, e5⟩ := zfW (t := 27) ds27 zbw rfl (by decide) (by rw [zad]; omega) f hs hsr (by simp only [List.length_nil]; omega) (by simp only [List.length_nil]; omega)
    rw [e1]
    simp -implicitDefEqProofs only [syms, symx, seval, c56]
    exact hk _ _ ((Ext.refl h).stepW e3 (by omega) (by omega)) (zsm (by simpa using e2))
  · simp -implicitDefEqProofs only [syms, symx, seval, c56]
    rw [hnil rfl] at hk
    exact hk _ _ ((Ext.refl h).upW _ _ (by omega)) (.inl ⟨rfl, Emp.nil⟩)
theorem zsc (a b : AtomD) (ha : a.light = true) (hb : b.light = true) (h : Heap) (K : Value → Heap → Prop) (hk : ∀ h', Ext h h' → K (.bool (cmpD a b == 0)) h') : Ok Tryz.prog tab ov 100 [a.val, b.val] h K := by
  rw [zaa h]
  have z := Ext.refl h
  refine Ok.into rfl zto (zay N100) rfl (m := 7) rfl ?_
  repeat' ( simp -implicitDefEqProofs only [syms, symx, seval, c100, zat, ↓zar, zap, zai])
  refine zgZ a b ha hb _ _ (fun h' x => ?_)
  ((skip); replace z := z.overW x (by (try simp only [lsz]); omega); rw [zaa h'])
  simp -implicitDefEqProofs only [syms, symx, seval, c100]
  refine zda (fun hc => ?_) (fun hc => ?_)
  · repeat' ( simp -implicitDefEqProofs only [syms, symx, seval, c100])
    rw [show (cmpD a b == 0) = true by rw [hc]; rfl] at hk
    exact hk _ (z.upW _ _ (by omega))
  · repeat' ( simp -implicitDefEqProofs only [syms, symx, seval, c100])
    rw [show (cmpD a b == 0) = false by simpa using hc] at hk
    exact hk _ (z.upW _ _ (by omega))
theorem zpU (l : List AtomD) (A : Nat) (h hs : Heap) (z : Ext h hs) (hA : h.size ≤ A) (q : Holds hs A (.row (rowA l) 26 false)) (hn : l.length ≤ 100000) (hlt : ∀ x ∈ l, x.light = true) (K : Value → Heap → Prop)
    (hk : ∀ h' v, Ext h h' → OwnA h h' 26 v (zdG l l.length) → K v h') : Ok Tryz.prog tab ov 99 [.slice (some ⟨A, 0, none⟩) l.length (G * 11 + l.length), .func (.func 100) ⟨[]⟩ ⟨[]⟩] hs K := by
  rw [zaa hs]
  have hbig : ∀ (x : Value) (hh : Heap) (K2 : Value → Heap → Prop), valE (some (.slice (some ⟨A, 0, none⟩) l.length (G * 11 + l.length))) hh K2 = K2 (.slice (some ⟨A, 0, none⟩) l.length (G * 11 + l.length)) hh := fun _ _ _ => rfl
  obtain ⟨C, hC⟩ : ∃ C, C = G * 11 + l.length := ⟨_, rfl⟩
  rw [← hC]
  refine Ok.into rfl zoH (zay N99) rfl (m := 64) rfl ?_
  repeat' (first | simp -implicitDefEqProofs only [syms, symx, seval, c99] | ((with_reducible  apply zax ) <;> intro _))
  · have e := zm1 (l := l) (by omega)
    rw [e] at hk
    exact hk _ _ (z.upW _ _ (by omega)) (zoE (q.on _ _) hA (by omega) hC)
  have hu1 : zdG l 1 = l.take 1 := by
    rw [zdw (m := 0) (by omega)]
    rfl
  obtain ⟨I1, hI1⟩ : ∃ I : Nat → Env → Heap → Prop, I = (fun n e h' => ∃ (k : Nat) (h1 : Heap), h' = h1.lay [] h1.low ∧ Ext h h1 ∧ (n = l.length - k ∧ 1 ≤ k ∧ k ≤ l.length ∧ zdG l k = l.take k ∧ Holds h1 A (.row (rowA l) 26 false)) ∧ ∃ J : Nat → Value, e = (.slice (some ⟨A, 0, none⟩) l.length C :: .func (.func 100) ⟨[]⟩ ⟨[]⟩ :: jr J 2 3 (.int .i64 k :: jr J 6 60 ([])))) := ⟨_, rfl⟩
  refine zas I1 _ (by rw [hI1]; exact ⟨1, _, rfl, z, ⟨rfl, by omega, by omega, hu1, q⟩, junk (by kernel_rfl)⟩) ?_
  intro n e h' hin
  rw [hI1] at hin
  obtain ⟨k, h1', rfl, z, hinv, J, rfl⟩ := hin
  clear q
  obtain ⟨rfl, hk1, hkn, hu, q⟩ := hinv
  have hwk : IntKind.i64.wrap ((k : Int) + 1) = ((k + 1 : Nat) : Int) := by rw [zae (by omega) (by omega)]; omega
  have hwk1 : IntKind.i64.wrap ((k : Int) - 1) = ((k - 1 : Nat) : Int) := by rw [zae (by omega) (by omega)]; omega
  simp -implicitDefEqProofs only [syms, symx, seval, c99]
  refine zax (fun hlt1 => ?_) (fun hlt1 => ?_)
  rotate_left
  · repeat' ( simp -implicitDefEqProofs only [syms, symx, seval, c99])
    have hkl : k = l.length := by omega
    subst hkl
    rw [hu, List.take_length] at hk
    exact hk _ _ (z.upW _ _ (by omega)) (zoE (q.on _ _) hA (by omega) hC)
  have hin : (0 : Int) ≤ (k : Int) ∧ (k : Int) < (l.length : Int) := by omega
  have hin1 : (0 : Int) ≤ ((k - 1 : Nat) : Int) ∧ ((k - 1 : Nat) : Int) < (l.length : Int) := by omega
  have hld := fun (bs : List Blk) (w : Nat) => zaL (bs := bs) (w := w) q (zaH (l := l) (i := k) (by omega))
  have hld1 := fun (bs : List Blk) (w : Nat) => zaL (bs := bs) (w := w) q (zaH (l := l) (i := k - 1) (by omega))
  simp -implicitDefEqProofs only [syms, symx, seval, c99]
  refine (zbU (by simp only [c99])) (z.upW _ _ (by omega)) ?_
  repeat' ( simp -implicitDefEqProofs only [syms, symx, seval, c99, hwk1, hin, hin1, and_self, if_true, ↓hld, ↓hld1, zai])
  refine zsc _ _ (zaP hlt (by omega)) (zaP hlt (by omega)) _ _ (fun h' x => ?_)
  (( ((with_reducible refine zaD ?_ ?_ ?_); (· exact (by (try simp only [lsz]); have := z.size; omega)); (·  exact x )) ); replace z := z.overW x (by (try simp only [lsz]); omega); (try replace q := q.over x); rw [zaa h'])
  cases hc : (cmpD (l.getD k noAtomD) (l.getD (k - 1) noAtomD) == 0)
  · repeat' (first | simp -implicitDefEqProofs only [syms, symx, seval, c99] | ((with_reducible refine ⟨z.grw.lay _ _, ?_⟩); (intro _ h' zz x _); (try simp only [zaq, List.append_nil] at x); (try replace q := q.over x); (replace z := zz); (clear zz); rw [zaa h']))
    rw [hwk]
    (rw [hI1]; with_reducible refine zac (m := _) ?_ ⟨k + 1, _, rfl, z, ⟨rfl, by omega, by omega, zqW (by omega) (by omega) hu (by simpa using hc), q⟩, junk (by kernel_rfl)⟩; omega)
  have hc : cmpD (l.getD k noAtomD) (l.getD (k - 1) noAtomD) = 0 := by simpa using hc
  repeat' (first | simp -implicitDefEqProofs only [syms, symx, seval, c99] | ((with_reducible refine ⟨z.grw.lay _ _, ?_⟩); (intro _ h' zz x _); (try simp only [zaq, List.append_nil] at x); (try replace q := q.over x); (replace z := zz); (clear zz); rw [zaa h']))
  rw [hC, zhE ds27 sz26 (by omega) (Nat.le_refl _) (by omega), ← hC]
  repeat' ( simp -implicitDefEqProofs only [syms, symx, seval, c99])
  obtain ⟨C2, hC2⟩ : ∃ C2, C2 = G * 11 + (l.length - k) := ⟨_, rfl⟩
  rw [← hC2]
  obtain ⟨I2, hI2⟩ : ∃ I : Nat → Env → Heap → Prop, I = (fun n e h' => ∃ (b i : Nat) (cur : List AtomD) (h1 : Heap), h' = h1.lay [] h1.low ∧ Ext h h1 ∧ (n = l.length - (k + b) ∧ 1 ≤ b ∧ k + b ≤ l.length ∧ cur.length = l.length ∧ i + 1 ≤ k + b ∧ cur.take i = zdG l (k + b) ∧ (∀ p, k + b ≤ p + 1 → cur.getD p noAtomD = l.getD p noAtomD) ∧ Holds h1 A (.row (rowA cur) 26 false)) ∧ ∃ J : Nat → Value, e = (.slice (some ⟨A, 0, none⟩) l.length C :: .func (.func 100) ⟨[]⟩ ⟨[]⟩ :: jr J 2 3 (.int .i64 i :: .slice (some ⟨A, k * 11, none⟩) (l.length - k) C2 :: .int .i64 b :: jr J 8 58 ([])))) := ⟨_, rfl⟩
  refine zas I2 _ (by rw [hI2]; exact ⟨1, k, l, _, rfl, z, ⟨rfl, by omega, by omega, rfl, by omega, by rw [zpi (by omega) hc]; exact hu.symm, fun _ _ => rfl, q⟩, junk (by kernel_rfl)⟩) ?_
  intro n e h' hin
  rw [hI2] at hin
  obtain ⟨b, i, cur, h2', rfl, z, hinv, J, rfl⟩ := hin
  clear q
  obtain ⟨rfl, hb1, hbn, hcl, hik, hcu, hce, q⟩ := hinv
  have hwb : IntKind.i64.wrap ((b : Int) + 1) = ((b + 1 : Nat) : Int) := by rw [zae (by omega) (by omega)]; omega
  have hwb1 : IntKind.i64.wrap ((b : Int) - 1) = ((b - 1 : Nat) : Int) := by rw [zae (by omega) (by omega)]; omega
  have hwi : IntKind.i64.wrap ((i : Int) + 1) = ((i + 1 : Nat) : Int) := by rw [zae (by omega) (by omega)]; omega
  simp -implicitDefEqProofs only [syms, symx, seval, c99]
  refine zax (fun hlt2 => ?_) (fun hlt2 => ?_)
  rotate_left
  · have hkb : k + b = l.length := by omega
    have hil : i ≤ l.length := by omega
    simp -implicitDefEqProofs only [syms, symx, seval, c99]
    rw [hC, zhE ds27 sz26 hil (Nat.le_refl _) (by omega), ← hC]
    obtain ⟨C3, hC3⟩ : ∃ C3, C3 = G * 11 + (l.length - i) := ⟨_, rfl⟩
    rw [← hC3]
    simp -implicitDefEqProofs only [syms, symx, seval, c99, zrh]
    refine zqv q ds27 zbw (by omega) (by omega) (fun h3 q3 c3 => ?_)
    replace z := z.stepW c3 hA (by omega)
    rw [zaa h3]
    clear q
    simp -implicitDefEqProofs only [syms, symx, seval, c99]
    rw [hC, zt3 ds27 sz26 hil (Nat.le_refl _) (by omega), ← hC]
    repeat' ( simp -implicitDefEqProofs only [syms, symx, seval, c99])
    rw [hcu, hkb] at q3
    have hlen : i = (zdG l l.length).length := by rw [← hkb, ← hcu, List.length_take]; omega
    have hlen2 : (zdG l l.length ++ List.replicate (cur.length - i) noAtomD).length = l.length := by rw [List.length_append, List.length_replicate]; omega
    exact hk _ _ (z.upW _ _ (by omega)) (zfz (q3.on _ _) hA (by omega) hlen (by rw [hlen2]; exact hC))
  have hin : (0 : Int) ≤ (b : Int) ∧ (b : Int) < ((l.length - k : Nat) : Int) := by omega
  have hin1 : (0 : Int) ≤ ((b - 1 : Nat) : Int) ∧ ((b - 1 : Nat) : Int) < ((l.length - k : Nat) : Int) := by omega
  have hld := fun (bs : List Blk) (w : Nat) => zaL (bs := bs) (w := w) q (zaH (l := cur) (i := k + b) (by omega))
  have hld1 := fun (bs : List Blk) (w : Nat) => zaL (bs := bs) (w := w) q (zaH (l := cur) (i := k + (b - 1)) (by omega))
  rw [Nat.add_mul] at hld hld1
  rw [hce _ (by omega)] at hld hld1
  simp -implicitDefEqProofs only [syms, symx, seval, c99]
  refine (zbU (by simp only [c99])) (z.upW _ _ (by omega)) ?_
  repeat' ( simp -implicitDefEqProofs only [syms, symx, seval, c99, hwb1, hin, hin1, and_self, if_true, ↓hld, ↓hld1, zai])
  refine zsc _ _ (zaP hlt (by omega)) (zaP hlt (by omega)) _ _ (fun h' x => ?_)
  (( ((with_reducible refine zaD ?_ ?_ ?_); (· exact (by (try simp only [lsz]); have := z.size; omega)); (·  exact x )) ); replace z := z.overW x (by (try simp only [lsz]); omega); (try replace q := q.over x); rw [zaa h'])
  cases hc2 : (cmpD (l.getD (k + b) noAtomD) (l.getD (k + (b - 1)) noAtomD) == 0)
  rotate_left
  · have hc2 : cmpD (l.getD (k + b) noAtomD) (l.getD (k + b - 1) noAtomD) = 0 := by rw [show k + b - 1 = k + (b - 1) by omega]; simpa using hc2
    repeat' (first | simp -implicitDefEqProofs only [syms, symx, seval, c99] | ((with_reducible_and_instances apply zaf); (· rfl)) | ((with_reducible refine ⟨z.grw.lay _ _, ?_⟩); (intro _ h' zz x _); (try simp only [zaq, List.append_nil] at x); (try replace q := q.over x); (replace z := zz); (clear zz); rw [zaa h']))
    rw [hwb]
    (rw [hI2]; with_reducible refine zac (m := _) ?_ ⟨b + 1, i, cur, _, rfl, z, ⟨rfl, by omega, by omega, hcl, by omega, by rw [hcu, show k + (b + 1) = k + b + 1 by omega, zpi (by omega) hc2], fun p hp => hce p (by omega), q⟩, junk (by kernel_rfl)⟩; omega)
  have hc2 : cmpD (l.getD (k + b) noAtomD) (l.getD (k + b - 1) noAtomD) ≠ 0 := by rw [show k + b - 1 = k + (b - 1) by omega]; simpa using hc2
  repeat' (first | simp -implicitDefEqProofs only [syms, symx, seval, c99] | ((with_reducible_and_instances apply zaf); (· rfl)) | ((with_reducible refine ⟨z.grw.lay _ _, ?_⟩); (intro _ h' zz x _); (try simp only [zaq, List.append_nil] at x); (try replace q := q.over x); (replace z := zz); (clear zz); rw [zaa h']))
  have hld := fun (bs : List Blk) (w : Nat) => zaL (bs := bs) (w := w) q (zaH (l := cur) (i := k + b) (by omega))
  rw [Nat.add_mul] at hld
  rw [hce _ (by omega)] at hld
  have hini : (0 : Int) ≤ (i : Int) ∧ (i : Int) < (l.length : Int) := by omega
  repeat' ( simp -implicitDefEqProofs only [syms, symx, seval, c99, hin, hini, and_self, if_true, ↓hld, zai])
  have hz := z.size
  refine zbz q sz26 (by omega) (fun h3 q3 c3 => ?_)
  replace z := z.stepW c3 hA (by omega)
  rw [zaa h3]
  clear q hld
  repeat' ( simp -implicitDefEqProofs only [syms, symx, seval, c99])
  rw [hwi, hwb]
  have hce3 : ∀ p, k + (b + 1) ≤ p + 1 → (cur.set i (l.getD (k + b) noAtomD)).getD p noAtomD = l.getD p noAtomD := by
    intro p hp
    have hne : i ≠ p := by omega
    rw [zfV hne]
    exact hce p (by omega)
  (rw [hI2]; with_reducible refine zac (m := _) ?_ ⟨b + 1, i + 1, cur.set i (l.getD (k + b) noAtomD), _, rfl, z, ⟨rfl, by omega, by omega, by rw [List.length_set]; exact hcl, by omega, by rw [zoW (by omega), hcu, show k + (b + 1) = k + b + 1 by omega, zrs hc2], hce3, q3⟩, junk (by kernel_rfl)⟩; omega)
theorem zq0 (v : Value) (h : Heap) (hl : Sl Rep.atom h v []) (K : Value → Heap → Prop) (hk : ∀ h', Ext h h' → K undef h') : Ok Tryz.prog tab ov 97 [v, .func (.func 98) ⟨[]⟩ ⟨[]⟩] h K := by
  rw [zaa h]
  have z := Ext.refl h
  have hln := fun (hh : Heap) => hl.lenA ds27 hh
  have hva := zaF v
  simp only [List.length_nil] at hln
  have hn0 : ((0 : Nat) : Int) = 0 := rfl
  refine Ok.into rfl zos (zay N97) rfl (m := 7) rfl ?_
  repeat' ( simp -implicitDefEqProofs only [syms, symx, seval, c134, c97, c99, c173, hln, hva, hn0])
  refine Ok.into rfl zlW (zay N134) rfl (m := 60) rfl ?_
  simp -implicitDefEqProofs only [syms, symx, seval, c134, c97, c99, c173, hln, hva, hn0]
  refine zfr ?_
  simp -implicitDefEqProofs only [syms, symx, seval, c134, c97, c99, c173, hln, hva, hn0, decide_false, zdM]
  refine Ok.into rfl zlc (zay N173) rfl (m := 49) rfl ?_
  simp -implicitDefEqProofs only [syms, symx, seval, c134, c97, c99, c173, hln, hva, hn0]
  refine zfr ?_
  simp -implicitDefEqProofs only [syms, symx, seval, c134, c97, c99, c173, hln, hva, hn0, decide_false, zdM]
  refine zfr ?_
  simp -implicitDefEqProofs only [syms, symx, seval, c134, c97, c99, c173, hln, hva, hn0, decide_false, zdM]
  exact hk _ (z.upW _ _ (by omega))
theorem zkb (v : Value) (h : Heap) (hl : Sl Rep.atom h v []) (f : Value) (K : Value → Heap → Prop) (hk : ∀ h', Ext h h' → K v h') : Ok Tryz.prog tab ov 99 [v, f] h K := by
  rw [zaa h]
  have z := Ext.refl h
  have hln := fun (hh : Heap) => hl.lenA ds27 hh
  have hva := zaF v
  simp only [List.length_nil] at hln
  have hn0 : ((0 : Nat) : Int) = 0 := rfl
  refine Ok.into rfl zoH (zay N99) rfl (m := 64) rfl ?_
  simp -implicitDefEqProofs only [syms, symx, seval, c134, c97, c99, c173, hln, hva, hn0, decide_true, zge]
  exact hk _ (z.upW _ _ (by omega))
theorem zh8 (l : List AtomD) (v : Value) (h : Heap) (hl : Sl Rep.atom h v l) (hn : l.length ≤ 100000) (hlt : ∀ x ∈ l, x.light = true) (K : Value → Heap → Prop)
    (hk : ∀ h' w, Ext h h' → OwnA h h' 26 w (zbR l) → K w h') : Ok Tryz.prog tab ov 59 [v] h K := by
  rw [zaa h]
  have z := Ext.refl h
  refine Ok.into rfl zvO (zay N59) rfl (m := 9) rfl ?_
  repeat' ( simp -implicitDefEqProofs only [syms, symx, seval, c59])
  refine zlT l v _ (hl.lay _ _) (by omega) _ (fun h' w x ho => ?_)
  rcases ho with ⟨rfl, ho⟩ | ⟨A, rfl, q, hA, hne⟩
  · have hva := zaF w
    ((skip); replace z := z.overW x (by (try simp only [lsz]); omega); rw [zaa h'])
    repeat' ( simp -implicitDefEqProofs only [syms, symx, seval, c59, hva])
    refine zq0 w _ (ho.lay _ _).sl _ (fun h' x => ?_)
    replace ho := ho.over x
    ((skip); replace z := z.overW x (by (try simp only [lsz]); omega); rw [zaa h'])
    repeat' ( simp -implicitDefEqProofs only [syms, symx, seval, c59, hva])
    refine zkb w _ (ho.lay _ _).sl _ _ (fun h' x => ?_)
    replace ho := ho.over x
    ((skip); replace z := z.overW x (by (try simp only [lsz]); omega); rw [zaa h'])
    repeat' ( simp -implicitDefEqProofs only [syms, symx, seval, c59, hva])
    exact hk _ _ (z.upW _ _ (by omega)) (.inl ⟨rfl, ho.lay _ _⟩)
  · ((skip); replace z := z.overW x (by (try simp only [lsz]); omega); rw [zaa h'])
    repeat' ( simp -implicitDefEqProofs only [syms, symx, seval, c59])
    refine zj2 l A (G * 11 + l.length) h _ (z.upW _ _ (by omega)) hA (q.on _ _) hn hlt _ (fun h' l' x q' hp hst hso => ?_)
    replace z := x
    rw [zaa h']
    repeat' ( simp -implicitDefEqProofs only [syms, symx, seval, c59])
    have key := fun K hk => zpU l' A h (h'.lay [] h'.low) (z.upW _ _ (by omega)) hA (q'.on _ _) (by rw [hp.length_eq]; omega) (zb4 hlt hp) K hk
    rw [zpw hp hst hso, hp.length_eq] at key
    refine key _ (fun h' w x ho => ?_)
    replace z := x
    have hva := zaF w
    rw [zaa h']
    repeat' ( simp -implicitDefEqProofs only [syms, symx, seval, c59, hva])
    exact hk _ _ (z.upW _ _ (by omega)) (ho.lay _ _)
end Go.Proofs.YtemapihoobmonaaGreatDoor
