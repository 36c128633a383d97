/- Walks: placed requests: sorting in place: merging Written out by fill2.py. No condition. -/
import Derived.Test.YtemapihoobmonaaGreatDoorG46
import Derived.Test.YtemapihoobmonaaGreatDoorG30
import Derived.Test.YtemapihoobmonaaGreatDoorZN21
import Derived.Test.YtemapihoobmonaaGreatDoorG14
import Derived.Test.YtemapihoobmonaaGreatDoorG10
namespace Go.Proofs.YtemapihoobmonaaGreatDoor
open Go.Am
set_option linter.unusedSimpArgs false
set_option linter.unusedVariables false
set_option maxRecDepth 100000
set_option maxHeartbeats 0
def zsV (sz : Nat) : Prop := ∀ (l : List PlD) (A c a m b : Nat) (h hs : Heap), Ext h hs → h.size ≤ A → Holds hs A (.row (za6 l) 133 false) → a < m → m < b → b - a ≤ sz → b ≤ l.length → l.length ≤ 100000 → (∀ x ∈ l, x.light = true) → zat l a m → zat l m b → ∀ (K : Value → Heap → Prop),
  (∀ h' l', Ext h h' → Holds h' A (.row (za6 l') 133 false) → MvP l l' a b → zat l' a b → K undef h') → Ok Tryz.prog tab ov 154 [.slice (some ⟨A, 0, none⟩) l.length c, .int .i64 a, .int .i64 m, .int .i64 b, .func (.func 85) ⟨[]⟩ ⟨[]⟩] hs K
theorem zfO (x y : Nat) (h : x + y ≤ 1000000) : IntKind.i64.wrap ((x : Int) + (y : Int)) = ((x + y : Nat) : Int) ∧ IntKind.u64.wrap ((x + y : Nat) : Int) = ((x + y : Nat) : Int) ∧ IntKind.i64.wrap (((x + y) / 2 : Nat) : Int) = (((x + y) / 2 : Nat) : Int) ∧ Int.fdiv ((x + y : Nat) : Int) (2 ^ (min (1 : Int).toNat (IntKind.bits .u64))) = (((x + y) / 2 : Nat) : Int) := by
  refine ⟨by rw [zae (by omega) (by omega)]; omega, by unfold IntKind.wrap; simp [IntKind.bits]; omega, zae (by omega) (by omega), ?_⟩
  show Int.fdiv ((x + y : Nat) : Int) 2 = _
  rw [Int.fdiv_eq_ediv_of_nonneg _ (by omega)]
  omega
theorem zno (sz : Nat) (ih : zsV sz) : zsV (sz + 1) := by
  intro l A c a m b h hs z hA q ham hmb hsz hb hn hlt h1 h2 K hk
  rw [zab hs]
  have hw1 : IntKind.i64.wrap ((m : Int) - (a : Int)) = ((m - a : Nat) : Int) := by rw [zae (by omega) (by omega)]; omega
  have hw2 : IntKind.i64.wrap ((b : Int) - (m : Int)) = ((b - m : Nat) : Int) := by rw [zae (by omega) (by omega)]; omega
  have hla : l[a]? = some (l.getD a zar) := zba (by omega)
  have hlm : l[m]? = some (l.getD m zar) := zba (by omega)
  refine Ok.into rfl zud (zaD N154) rfl (m := 215) rfl ?_
  simp -implicitDefEqProofs only [syms, symx, seval, c154, hw1, hw2]
  refine zjg (fun hone => ?_) (fun hone => ?_)
  · -- Am.one element in front
    simp -implicitDefEqProofs only [syms, symx, seval, c154]
    obtain ⟨I1, hI1⟩ : ∃ I : Nat → Env → Heap → Prop, I = (fun n e h' => ∃ (i j : Nat) (h1 : Heap), h' = h1.lay [] h1.low ∧ Ext h h1 ∧ (n = j - i ∧ m ≤ i ∧ i ≤ j ∧ j ≤ b ∧ (i = m ∨ za8 (l.getD (i - 1) zar) (l.getD a zar) < 0) ∧ (j = b ∨ ¬ za8 (l.getD j zar) (l.getD a zar) < 0) ∧ Holds h1 A (.row (za6 l) 133 false)) ∧ ∃ J : Nat → Value, e = (.slice (some ⟨A, 0, none⟩) l.length c :: .int .i64 a :: .int .i64 m :: .int .i64 b :: .func (.func 85) ⟨[]⟩ ⟨[]⟩ :: jr J 5 5 (.int .i64 i :: .int .i64 j :: jr J 12 208 ([])))) := ⟨_, rfl⟩
    refine zaI I1 _ (by rw [hI1]; exact ⟨m, b, _, rfl, z, ⟨rfl, by omega, by omega, by omega, .inl rfl, .inl rfl, q⟩, junk (by kernel_rfl)⟩) ?_
    intro n e h' hin
    rw [hI1] at hin
    obtain ⟨i, j, h1', rfl, z, hinv, J, rfl⟩ := hin
    clear q
    obtain ⟨rfl, g1, g2, g3, g4, g5, q⟩ := hinv
    simp -implicitDefEqProofs only [syms, symx, seval, c154]
    refine zay (fun hij => ?_) (fun hij => ?_)
    rotate_left
    · have hij2 : i = j := by omega
      subst hij2
      have hl0 := g4
      have hr0 := g5
      have hwi : IntKind.i64.wrap ((i : Int) - 1) = ((i - 1 : Nat) : Int) := by rw [zae (by omega) (by omega)]; omega
      have ham1 : m = a + 1 := by omega
      subst ham1
      simp -implicitDefEqProofs only [syms, symx, seval, c154]
      obtain ⟨I2, hI2⟩ : ∃ I : Nat → Env → Heap → Prop, I = (fun n e h' => ∃ (k : Nat) (l1 : List PlD) (h1 : Heap), h' = h1.lay [] h1.low ∧ Ext h h1 ∧ (n = i - 1 - k ∧ a ≤ k ∧ k ≤ i - 1 ∧ MvP l l1 a b ∧ zst l l1 a k ∧ Holds h1 A (.row (za6 l1) 133 false)) ∧ ∃ J : Nat → Value, e = (.slice (some ⟨A, 0, none⟩) l.length c :: jr J 1 9 (.int .i64 i :: jr J 11 2 (.int .i64 k :: jr J 14 206 ([]))))) := ⟨_, rfl⟩
      refine zaI I2 _ (by rw [hI2]; exact ⟨a, l, _, rfl, z, ⟨rfl, by omega, by omega, MvP.refl l a b, znz l a, q⟩, junk (by kernel_rfl)⟩) ?_
      intro n e h' hin
      rw [hI2] at hin
      obtain ⟨k, l1, h2', rfl, z, hinv, J, rfl⟩ := hin
      clear q
      obtain ⟨rfl, f1, f2, f3, f4, q⟩ := hinv
      have hl1 := f3.perm.length_eq
      have hwk : IntKind.i64.wrap ((k : Int) + 1) = ((k + 1 : Nat) : Int) := by rw [zae (by omega) (by omega)]; omega
      simp -implicitDefEqProofs only [syms, symx, seval, c154, hwi]
      refine zay (fun hki => ?_) (fun hki => ?_)
      rotate_left
      · have hki2 : k = i - 1 := by omega
        subst hki2
        repeat' ( simp -implicitDefEqProofs only [syms, symx, seval, c154])
        exact hk _ _ (z.upW _ _ (by omega)) (q.on _ _) f3 (zuJ h2 (by omega) (by omega) hl0 hr0 f4)
      have hin : (0 : Int) ≤ (k : Int) ∧ (k : Int) < (l.length : Int) := by omega
      have hin1 : (0 : Int) ≤ ((k + 1 : Nat) : Int) ∧ ((k + 1 : Nat) : Int) < (l.length : Int) := by omega
      have hld := fun (bs : List Blk) (w : Nat) => zaQ (bs := bs) (w := w) q (zba (l := l1) (i := k) (by omega))
      have hld1 := fun (bs : List Blk) (w : Nat) => zaQ (bs := bs) (w := w) q (zba (l := l1) (i := k + 1) (by omega))
      simp -implicitDefEqProofs only [syms, symx, seval, c154]
      refine (zdQ (by simp only [c154])) (z.upW _ _ (by omega)) ?_
      repeat' ( simp -implicitDefEqProofs only [syms, symx, seval, c154, hwk, hin, hin1, and_self, if_true, ↓hld, ↓hld1, za7])
      have hz := z.size
      refine zbL q ziz (by omega) (fun h3 q3 c3 => ?_)
      refine za3 (A := A) (by kernel_rfl) (by rw [zag]; omega) (by omega) (by simpa only [zau, zag, List.append_nil, List.length_cons, List.length_nil, Nat.add_zero] using c3) ?_
      replace z := (z.upW [] (h2'.size + 0) (by omega)).step c3 hA
      rw [zab h3]
      clear q hld hld1
      repeat' ( simp -implicitDefEqProofs only [syms, symx, seval, c154, hwk, hin, hin1, and_self, if_true])
      refine zbL q3 ziz (by rw [List.length_set]; omega) (fun h4 q4 c4 => ?_)
      have hz := z.size
      refine za3 (A := A) (by kernel_rfl) (by rw [zag]; omega) (by omega) (by simpa only [zau, zag, List.append_nil, List.length_cons, List.length_nil, Nat.add_zero] using c4) ?_
      replace z := (z.upW [] (h3.size + 0) (by omega)).step c4 hA
      rw [zab h4]
      clear q3
      repeat' (first | simp -implicitDefEqProofs only [syms, symx, seval, c154] | ((with_reducible refine ⟨z.grw.lay _ _, ?_⟩); (intro _ h' zz x _); (try simp only [zau, List.append_nil] at x); (try replace q4 := q4.over x); (replace z := zz); (clear zz); rw [zab h']))
      rw [hwk]
      replace q4 : Holds _ A (.row (za6 (zbk l1 k (k + 1))) 133 false) := q4
      (rw [hI2]; with_reducible refine zaf (m := _) ?_ ⟨k + 1, zbk l1 k (k + 1), _, rfl, z, ⟨rfl, by omega, by omega, f3.trans (MvP.swap (by omega) (by omega) (by omega) (zuR (by omega) (zp3 h2 g3 hl0 f1 (by omega) f4))), zrA f4 f1 (by omega), q4⟩, junk (by kernel_rfl)⟩; omega)
    obtain ⟨e1, e2, e3, e4⟩ := zfO i j (by omega)
    repeat' ( simp -implicitDefEqProofs only [syms, symx, seval, c154, e1])
    rw [zb1 rfl rfl rfl (zkO _) rfl, e2]
    simp -implicitDefEqProofs only [syms, symx, seval, c154, e1]
    rw [zkI (by decide), e4]
    simp -implicitDefEqProofs only [syms, symx, seval, c154, e1]
    rw [zb1 rfl rfl rfl (zkq _) rfl, e3]
    repeat' ( simp -implicitDefEqProofs only [syms, symx, seval, c154, e1])
    have hhm : i ≤ (i + j) / 2 ∧ (i + j) / 2 < j := by omega
    have hwh : IntKind.i64.wrap ((((i + j) / 2 : Nat) : Int) + 1) = (((i + j) / 2 + 1 : Nat) : Int) := by rw [zae (by omega) (by omega)]; omega
    generalize (i + j) / 2 = y at hhm hwh ⊢
    have hin : (0 : Int) ≤ (y : Int) ∧ (y : Int) < (l.length : Int) := by omega
    have hin1 : (0 : Int) ≤ (a : Int) ∧ (a : Int) < (l.length : Int) := by omega
    have hld := fun (bs : List Blk) (w : Nat) => zaQ (bs := bs) (w := w) q (zba (l := l) (i := y) (by omega))
    have hld1 := fun (bs : List Blk) (w : Nat) => zaQ (bs := bs) (w := w) q (zba (l := l) (i := a) (by omega))
    refine (zdQ (by simp only [c154])) (z.upW _ _ (by omega)) ?_
    repeat' ( simp -implicitDefEqProofs only [syms, symx, seval, c154, hin, hin1, and_self, if_true, ↓hld, ↓hld1, za7])
    refine zkG _ _ (zbQ hlt (by omega)) (zbQ hlt (by omega)) _ _ (fun h' x => ?_)
    (( ((with_reducible refine zbr ?_ ?_ ?_); (· exact (by (try simp only [lsz]); have := z.size; omega)); (·  exact x )) ); replace z := z.overW x (by (try simp only [lsz]); omega); (try replace q := q.over x); rw [zab h'])
    simp -implicitDefEqProofs only [syms, symx, seval, c154]
    refine zay (fun hc => ?_) (fun hc => ?_)
    · repeat' (first | simp -implicitDefEqProofs only [syms, symx, seval, c154] | ((with_reducible refine ⟨z.grw.lay _ _, ?_⟩); (intro _ h' zz x _); (try simp only [zau, List.append_nil] at x); (try replace q := q.over x); (replace z := zz); (clear zz); rw [zab h']))
      rw [hwh]
      (rw [hI1]; with_reducible refine zaf (m := _) ?_ ⟨y + 1, j, _, rfl, z, ⟨rfl, by omega, by omega, by omega, .inr (by rw [Nat.add_sub_cancel]; exact hc), g5, q⟩, junk (by kernel_rfl)⟩; omega)
    · repeat' (first | simp -implicitDefEqProofs only [syms, symx, seval, c154] | ((with_reducible refine ⟨z.grw.lay _ _, ?_⟩); (intro _ h' zz x _); (try simp only [zau, List.append_nil] at x); (try replace q := q.over x); (replace z := zz); (clear zz); rw [zab h']))
      (rw [hI1]; with_reducible refine zaf (m := _) ?_ ⟨i, y, _, rfl, z, ⟨rfl, by omega, by omega, by omega, g4, .inr hc, q⟩, junk (by kernel_rfl)⟩; omega)
  simp -implicitDefEqProofs only [syms, symx, seval, c154, hw2]
  refine zjg (fun hone2 => ?_) (fun hone2 => ?_)
  · -- Am.one element behind
    simp -implicitDefEqProofs only [syms, symx, seval, c154]
    obtain ⟨I3, hI3⟩ : ∃ I : Nat → Env → Heap → Prop, I = (fun n e h' => ∃ (i j : Nat) (h1 : Heap), h' = h1.lay [] h1.low ∧ Ext h h1 ∧ (n = j - i ∧ a ≤ i ∧ i ≤ j ∧ j ≤ m ∧ (i = a ∨ ¬ za8 (l.getD m zar) (l.getD (i - 1) zar) < 0) ∧ (j = m ∨ za8 (l.getD m zar) (l.getD j zar) < 0) ∧ Holds h1 A (.row (za6 l) 133 false)) ∧ ∃ J : Nat → Value, e = (.slice (some ⟨A, 0, none⟩) l.length c :: .int .i64 a :: .int .i64 m :: .int .i64 b :: .func (.func 85) ⟨[]⟩ ⟨[]⟩ :: jr J 5 9 (.int .i64 i :: .int .i64 j :: jr J 16 204 ([])))) := ⟨_, rfl⟩
    refine zaI I3 _ (by rw [hI3]; exact ⟨a, m, _, rfl, z, ⟨rfl, by omega, by omega, by omega, .inl rfl, .inl rfl, q⟩, junk (by kernel_rfl)⟩) ?_
    intro n e h' hin
    rw [hI3] at hin
    obtain ⟨i, j, h1', rfl, z, hinv, J, rfl⟩ := hin
    clear q
    obtain ⟨rfl, g1, g2, g3, g4, g5, q⟩ := hinv
    simp -implicitDefEqProofs only [syms, symx, seval, c154]
    refine zay (fun hij => ?_) (fun hij => ?_)
    rotate_left
    · have hij2 : i = j := by omega
      subst hij2
      have hl0 := g4
      have hr0 := g5
      have hbm1 : b = m + 1 := by omega
      subst hbm1
      simp -implicitDefEqProofs only [syms, symx, seval, c154]
      obtain ⟨I4, hI4⟩ : ∃ I : Nat → Env → Heap → Prop, I = (fun n e h' => ∃ (k : Nat) (l1 : List PlD) (h1 : Heap), h' = h1.lay [] h1.low ∧ Ext h h1 ∧ (n = k - i ∧ i ≤ k ∧ k ≤ m ∧ MvP l l1 a (m + 1) ∧ zir l l1 m k ∧ Holds h1 A (.row (za6 l1) 133 false)) ∧ ∃ J : Nat → Value, e = (.slice (some ⟨A, 0, none⟩) l.length c :: jr J 1 13 (.int .i64 i :: jr J 15 2 (.int .i64 k :: jr J 18 202 ([]))))) := ⟨_, rfl⟩
      refine zaI I4 _ (by rw [hI4]; exact ⟨m, l, _, rfl, z, ⟨rfl, by omega, by omega, MvP.refl l a _, zkm l m, q⟩, junk (by kernel_rfl)⟩) ?_
      intro n e h' hin
      rw [hI4] at hin
      obtain ⟨k, l1, h2', rfl, z, hinv, J, rfl⟩ := hin
      clear q
      obtain ⟨rfl, f1, f2, f3, f4, q⟩ := hinv
      have hl1 := f3.perm.length_eq
      simp -implicitDefEqProofs only [syms, symx, seval, c154]
      refine zay (fun hki => ?_) (fun hki => ?_)
      rotate_left
      · have hki2 : k = i := by omega
        subst hki2
        repeat' ( simp -implicitDefEqProofs only [syms, symx, seval, c154])
        exact hk _ _ (z.upW _ _ (by omega)) (q.on _ _) f3 (zut h1 (by omega) (by omega) hl0 hr0 f4)
      have hwk : IntKind.i64.wrap ((k : Int) - 1) = ((k - 1 : Nat) : Int) := by rw [zae (by omega) (by omega)]; omega
      have hin : (0 : Int) ≤ (k : Int) ∧ (k : Int) < (l.length : Int) := by omega
      have hin1 : (0 : Int) ≤ ((k - 1 : Nat) : Int) ∧ ((k - 1 : Nat) : Int) < (l.length : Int) := by omega
      have hld := fun (bs : List Blk) (w : Nat) => zaQ (bs := bs) (w := w) q (zba (l := l1) (i := k) (by omega))
      have hld1 := fun (bs : List Blk) (w : Nat) => zaQ (bs := bs) (w := w) q (zba (l := l1) (i := k - 1) (by omega))
      simp -implicitDefEqProofs only [syms, symx, seval, c154]
      refine (zdQ (by simp only [c154])) (z.upW _ _ (by omega)) ?_
      repeat' ( simp -implicitDefEqProofs only [syms, symx, seval, c154, hwk, hin, hin1, and_self, if_true, ↓hld, ↓hld1, za7])
      have hz := z.size
      refine zbL q ziz (by omega) (fun h3 q3 c3 => ?_)
      refine za3 (A := A) (by kernel_rfl) (by rw [zag]; omega) (by omega) (by simpa only [zau, zag, List.append_nil, List.length_cons, List.length_nil, Nat.add_zero] using c3) ?_
      replace z := (z.upW [] (h2'.size + 0) (by omega)).step c3 hA
      rw [zab h3]
      clear q hld hld1
      repeat' ( simp -implicitDefEqProofs only [syms, symx, seval, c154, hwk, hin, hin1, and_self, if_true])
      refine zbL q3 ziz (by rw [List.length_set]; omega) (fun h4 q4 c4 => ?_)
      have hz := z.size
      refine za3 (A := A) (by kernel_rfl) (by rw [zag]; omega) (by omega) (by simpa only [zau, zag, List.append_nil, List.length_cons, List.length_nil, Nat.add_zero] using c4) ?_
      replace z := (z.upW [] (h3.size + 0) (by omega)).step c4 hA
      rw [zab h4]
      clear q3
      repeat' (first | simp -implicitDefEqProofs only [syms, symx, seval, c154] | ((with_reducible refine ⟨z.grw.lay _ _, ?_⟩); (intro _ h' zz x _); (try simp only [zau, List.append_nil] at x); (try replace q4 := q4.over x); (replace z := zz); (clear zz); rw [zab h']))
      rw [hwk]
      replace q4 : Holds _ A (.row (za6 (zbk l1 k (k - 1))) 133 false) := q4
      (rw [hI4]; with_reducible refine zaf (m := _) ?_ ⟨k - 1, zbk l1 k (k - 1), _, rfl, z, ⟨rfl, by omega, by omega, f3.trans (MvP.swap (by omega) (by omega) (by omega) (zjS (by omega) (by omega) (zmn h1 g1 hr0 (by omega) f2 f4))), zm5 f4 (by omega) f2 (by omega), q4⟩, junk (by kernel_rfl)⟩; omega)
    obtain ⟨e1, e2, e3, e4⟩ := zfO i j (by omega)
    repeat' ( simp -implicitDefEqProofs only [syms, symx, seval, c154, e1])
    rw [zb1 rfl rfl rfl (zkO _) rfl, e2]
    simp -implicitDefEqProofs only [syms, symx, seval, c154, e1]
    rw [zkI (by decide), e4]
    simp -implicitDefEqProofs only [syms, symx, seval, c154, e1]
    rw [zb1 rfl rfl rfl (zkq _) rfl, e3]
    repeat' ( simp -implicitDefEqProofs only [syms, symx, seval, c154, e1])
    have hhm : i ≤ (i + j) / 2 ∧ (i + j) / 2 < j := by omega
    have hwh : IntKind.i64.wrap ((((i + j) / 2 : Nat) : Int) + 1) = (((i + j) / 2 + 1 : Nat) : Int) := by rw [zae (by omega) (by omega)]; omega
    generalize (i + j) / 2 = y at hhm hwh ⊢
    have hin : (0 : Int) ≤ (y : Int) ∧ (y : Int) < (l.length : Int) := by omega
    have hin1 : (0 : Int) ≤ (m : Int) ∧ (m : Int) < (l.length : Int) := by omega
    have hld := fun (bs : List Blk) (w : Nat) => zaQ (bs := bs) (w := w) q (zba (l := l) (i := y) (by omega))
    have hld1 := fun (bs : List Blk) (w : Nat) => zaQ (bs := bs) (w := w) q (zba (l := l) (i := m) (by omega))
    refine (zdQ (by simp only [c154])) (z.upW _ _ (by omega)) ?_
    repeat' ( simp -implicitDefEqProofs only [syms, symx, seval, c154, hin, hin1, and_self, if_true, ↓hld, ↓hld1, za7])
    refine zkG _ _ (zbQ hlt (by omega)) (zbQ hlt (by omega)) _ _ (fun h' x => ?_)
    (( ((with_reducible refine zbr ?_ ?_ ?_); (· exact (by (try simp only [lsz]); have := z.size; omega)); (·  exact x )) ); replace z := z.overW x (by (try simp only [lsz]); omega); (try replace q := q.over x); rw [zab h'])
    simp -implicitDefEqProofs only [syms, symx, seval, c154]
    refine zay (fun hc => ?_) (fun hc => ?_)
    · repeat' (first | simp -implicitDefEqProofs only [syms, symx, seval, c154] | ((with_reducible_and_instances apply zan); (· rfl)) | ((with_reducible refine ⟨z.grw.lay _ _, ?_⟩); (intro _ h' zz x _); (try simp only [zau, List.append_nil] at x); (try replace q := q.over x); (replace z := zz); (clear zz); rw [zab h']))
      (rw [hI3]; with_reducible refine zaf (m := _) ?_ ⟨i, y, _, rfl, z, ⟨rfl, by omega, by omega, by omega, g4, .inr hc, q⟩, junk (by kernel_rfl)⟩; omega)
    · repeat' (first | simp -implicitDefEqProofs only [syms, symx, seval, c154] | ((with_reducible_and_instances apply zan); (· rfl)) | ((with_reducible refine ⟨z.grw.lay _ _, ?_⟩); (intro _ h' zz x _); (try simp only [zau, List.append_nil] at x); (try replace q := q.over x); (replace z := zz); (clear zz); rw [zab h']))
      rw [hwh]
      (rw [hI3]; with_reducible refine zaf (m := _) ?_ ⟨y + 1, j, _, rfl, z, ⟨rfl, by omega, by omega, by omega, .inr (by rw [Nat.add_sub_cancel]; exact hc), g5, q⟩, junk (by kernel_rfl)⟩; omega)
  -- both parts longer
  obtain ⟨e1, e2, e3, e4⟩ := zfO a b (by omega)
  repeat' ( simp -implicitDefEqProofs only [syms, symx, seval, c154, e1])
  rw [zb1 rfl rfl rfl (zkO _) rfl, e2]
  simp -implicitDefEqProofs only [syms, symx, seval, c154, e1]
  rw [zkI (by decide), e4]
  simp -implicitDefEqProofs only [syms, symx, seval, c154, e1]
  rw [zb1 rfl rfl rfl (zkq _) rfl, e3]
  have hm1 : 2 * ((a + b) / 2) ≤ a + b := by omega
  have hm2 : a + b ≤ 2 * ((a + b) / 2) + 1 := by omega
  generalize (a + b) / 2 = mid at hm1 hm2 ⊢
  have hwn : IntKind.i64.wrap ((mid : Int) + (m : Int)) = ((mid + m : Nat) : Int) := by rw [zae (by omega) (by omega)]; omega
  have hwp : IntKind.i64.wrap (((mid + m : Nat) : Int) - 1) = ((mid + m - 1 : Nat) : Int) := by rw [zae (by omega) (by omega)]; omega
  have hwb : mid < m → IntKind.i64.wrap (((mid + m : Nat) : Int) - (b : Int)) = ((mid + m - b : Nat) : Int) := fun _ => by rw [zae (by omega) (by omega)]; omega
  simp -implicitDefEqProofs only [syms, symx, seval, c154, hwn]
  refine zay (fun hgm => ?_) (fun hgm => ?_)
  focus
    have hwb := hwb (by omega)
    simp -implicitDefEqProofs only [syms, symx, seval, c154, hwn, hwb, hwp]
    have hinit := zsP (l := l) (a := a) hmb (show mid < m by omega)
  rotate_left
  focus
    simp -implicitDefEqProofs only [syms, symx, seval, c154, hwn, hwp]
    have hinit := ztY (l := l) (b := b) ham (show m ≤ mid by omega)
  all_goals
    obtain ⟨I5, hI5⟩ : ∃ I : Nat → Env → Heap → Prop, I = (fun n e h' => ∃ (s r : Nat) (h1 : Heap), h' = h1.lay [] h1.low ∧ Ext h h1 ∧ (n = r - s ∧ SymInvP l a m b mid s r ∧ Holds h1 A (.row (za6 l) 133 false)) ∧ ∃ J : Nat → Value, e = (.slice (some ⟨A, 0, none⟩) l.length c :: .int .i64 a :: .int .i64 m :: .int .i64 b :: .func (.func 85) ⟨[]⟩ ⟨[]⟩ :: jr J 5 13 (.int .i64 mid :: .int .i64 ((mid + m : Nat) : Int) :: .int .i64 s :: .int .i64 r :: .int .i64 ((mid + m - 1 : Nat) : Int) :: jr J 23 197 ([])))) := ⟨_, rfl⟩
    refine zaI I5 _ (by rw [hI5]; exact ⟨_, _, _, rfl, z, ⟨rfl, hinit, q⟩, junk (by kernel_rfl)⟩) ?_
    intro n e h' hin
    rw [hI5] at hin
    obtain ⟨s, r, h1', rfl, z, hinv, J, rfl⟩ := hin
    clear q hinit
    obtain ⟨rfl, hinv, q⟩ := hinv
    simp -implicitDefEqProofs only [syms, symx, seval, c154]
    refine zay (fun hsr => ?_) (fun hsr => ?_)
    rotate_left
    · have hsr2 : s = r := by have := hinv.sr; omega
      subst hsr2
      have sp := ziG hinv ham hmb hm1 hm2
      obtain ⟨p1, p2, p3, p4, p5, _, _⟩ := sp
      have sp := ziG hinv ham hmb hm1 hm2
      have hwe : IntKind.i64.wrap (((mid + m : Nat) : Int) - (s : Int)) = ((mid + m - s : Nat) : Int) := by rw [zae (by omega) (by omega)]; omega
      simp -implicitDefEqProofs only [syms, symx, seval, nilK (rops (N154 107)) 3 rfl, zyJ (N154 108) (N154 109) (N154 110) rfl, zyv (N154 110) rfl]
      rw [seqK (N154 119) (N154 120) (N154 121) rfl]
      obtain ⟨R6, hR6⟩ : ∃ R : Env → Heap → Prop, R = (fun e h' => ∃ (h1 : Heap), h' = h1.lay [] h1.low ∧ Ext h h1 ∧ (Holds h1 A (.row (za6 l) 133 false)) ∧ ∃ J : Nat → Value, e = (.slice (some ⟨A, 0, none⟩) l.length c :: .int .i64 a :: .int .i64 m :: .int .i64 b :: .func (.func 85) ⟨[]⟩ ⟨[]⟩ :: jr J 5 13 (.int .i64 mid :: J 19 :: .int .i64 s :: jr J 21 3 (.int .i64 ((mid + m - s : Nat) : Int) :: jr J 25 195 ([])))) ∧ True) := ⟨_, rfl⟩
      refine zxa R6 ?cut ?rest
      case' rest =>
        intro e h' hin
        rw [hR6] at hin
        obtain ⟨h2', rfl, z, hinv, J, rfl, _⟩ := hin
      case cut =>
        simp -implicitDefEqProofs only [syms, symx, seval, c154, hwe]
        (( skip); rw [hR6]; exact ⟨_, rfl, z, q, ztL (by kernel_rfl) (trivial)⟩)
      case rest =>
      have q := hinv
      simp -implicitDefEqProofs only [syms, symx, seval]
      rw [seqK (N154 121) (N154 122) (N154 127) rfl]
      obtain ⟨R7, hR7⟩ : ∃ R : Env → Heap → Prop, R = (fun e h' => ∃ (l1 : List PlD) (h1 : Heap), h' = h1.lay [] h1.low ∧ Ext h h1 ∧ (MvP l l1 s (mid + m - s) ∧ zg1 l l1 s m (mid + m - s) ∧ Holds h1 A (.row (za6 l1) 133 false)) ∧ ∃ J : Nat → Value, e = (.slice (some ⟨A, 0, none⟩) l.length c :: .int .i64 a :: .int .i64 m :: .int .i64 b :: .func (.func 85) ⟨[]⟩ ⟨[]⟩ :: jr J 5 13 (.int .i64 mid :: J 19 :: .int .i64 s :: jr J 21 3 (.int .i64 ((mid + m - s : Nat) : Int) :: jr J 25 195 ([])))) ∧ True) := ⟨_, rfl⟩
      refine zxa R7 ?cut ?rest
      case' rest =>
        intro e h' hin
        rw [hR7] at hin
        obtain ⟨l1, h3', rfl, z, hinv, J, rfl, _⟩ := hin
      case cut =>
        repeat' (first | simp -implicitDefEqProofs only [syms, symx, seval, c154] | ((with_reducible  apply zay ) <;> intro _))
        all_goals first
          | (( skip); rw [hR7]; exact ⟨l, _, rfl, z, ⟨MvP.refl _ _ _, zr5 (by omega) (by omega) (by omega), q⟩, ztL (by kernel_rfl) (trivial)⟩)
          | (refine zq3 l A c s m (mid + m - s) _ h _ (z.upW _ _ (by omega)) hA (q.on _ _) (by omega) (by omega) (by omega) hn _ (fun h' x q1 hp1 => ?_)
             replace z := x
             rw [zab h']
             simp -implicitDefEqProofs only [syms, symx, seval, c154]
             (( skip); rw [hR7]; exact ⟨ze4 l s m (mid + m - s), _, rfl, z, ⟨zsA (fun k => zeR (by omega) k) (by omega) (by omega) hp1 (zoE h1 h2 sp (fun k => zeR (by omega) k) (by omega) hp1.length_eq), fun k => zeR (by omega) k, q1⟩, ztL (by kernel_rfl) (trivial)⟩))
      case rest =>
      obtain ⟨mv1, t1, q⟩ := hinv
      obtain ⟨so1, so2, so3, so4⟩ := zmF h1 h2 sp t1
      have hcr := fun (i j : Nat) (g1 : a ≤ i) (g2 : i < mid) (g3 : mid ≤ j) (g4 : j < b) => zmk h1 h2 sp t1 g1 g2 g3 g4
      have hl1 := mv1.perm.length_eq
      simp -implicitDefEqProofs only [syms, symx, seval]
      rw [seqK (N154 127) (N154 128) (N154 133) rfl]
      obtain ⟨R8, hR8⟩ : ∃ R : Env → Heap → Prop, R = (fun e h' => ∃ (l2 : List PlD) (h1 : Heap), h' = h1.lay [] h1.low ∧ Ext h h1 ∧ (MvP l1 l2 a mid ∧ zat l2 a mid ∧ Holds h1 A (.row (za6 l2) 133 false)) ∧ ∃ J : Nat → Value, e = (.slice (some ⟨A, 0, none⟩) l.length c :: .int .i64 a :: .int .i64 m :: .int .i64 b :: .func (.func 85) ⟨[]⟩ ⟨[]⟩ :: jr J 5 13 (.int .i64 mid :: J 19 :: .int .i64 s :: jr J 21 3 (.int .i64 ((mid + m - s : Nat) : Int) :: jr J 25 195 ([])))) ∧ True) := ⟨_, rfl⟩
      refine zxa R8 ?cut ?rest
      case' rest =>
        intro e h' hin
        rw [hR8] at hin
        obtain ⟨l2, h4', rfl, z, hinv, J, rfl, _⟩ := hin
      case cut =>
        repeat' (first | simp -implicitDefEqProofs only [syms, symx, seval, c154] | ((with_reducible  apply zay ) <;> intro _))
        all_goals first
          | (( skip); rw [hR8]; exact ⟨l1, _, rfl, z, ⟨MvP.refl _ _ _, (by first | (have e : s = mid := by omega); rw [← e]; exact so1 | (have e : a = s := by omega); rw [e]; exact so2), q⟩, ztL (by kernel_rfl) (trivial)⟩)
          | (have key := ih l1 A c a s mid h (h3'.lay [] h3'.low) (z.upW _ _ (by omega)) hA (q.on _ _) (by omega) (by omega) (by omega) (by omega) (by omega) (zb8 hlt mv1.perm) so1 so2
             simp only [hl1] at key
             refine key _ (fun h' l2 x q1 mv2 so5 => ?_)
             replace z := x
             rw [zab h']
             simp -implicitDefEqProofs only [syms, symx, seval, c154]
             (( skip); rw [hR8]; exact ⟨l2, _, rfl, z, ⟨mv2, so5, q1⟩, ztL (by kernel_rfl) (trivial)⟩))
      case rest =>
      obtain ⟨mv2, so5, q⟩ := hinv
      have hl2 := mv2.perm.length_eq
      have so6 := zcT so3 (fun k g1 g2 => mv2.out k (.inr g1))
      have so7 := zcT so4 (fun k g1 g2 => mv2.out k (.inr (by omega)))
      have mvT := (mv1.widen p1 p5).trans (mv2.widen (Nat.le_refl _) (show mid ≤ b by omega))
      repeat' (first | simp -implicitDefEqProofs only [syms, symx, seval, c154] | ((with_reducible  apply zay ) <;> intro _))
      all_goals first
        | exact hk _ l2 (z.upW _ _ (by omega)) (q.on _ _) mvT (zj1 hcr mv2 (MvP.refl l2 mid b) so5 (by first | (have e : mid = mid + m - s := by omega); rw [e]; exact so7 | (have e : mid + m - s = b := by omega); rw [← e]; exact so6))
        | (have key := ih l2 A c mid (mid + m - s) b h (h4'.lay [] h4'.low) (z.upW _ _ (by omega)) hA (q.on _ _) (by omega) (by omega) (by omega) (by omega) (by omega) (zb8 (zb8 hlt mv1.perm) mv2.perm) so6 so7
           simp only [hl2, hl1] at key
           refine key _ (fun h' l3 x q1 mv3 so8 => ?_)
           rw [zab h']
           repeat' ( simp -implicitDefEqProofs only [syms, symx, seval, c154])
           exact hk _ l3 (x.upW _ _ (by omega)) (q1.on _ _) (mvT.trans (mv3.widen (show a ≤ mid by omega) (Nat.le_refl _))) (zj1 hcr mv2 mv3 so5 so8))
    have hrl : r ≤ l.length := by
      rcases Nat.lt_or_ge mid m with g | g
      · have := hinv.le2 g; omega
      · have := hinv.le1 g; omega
    obtain ⟨e1, e2, e3, e4⟩ := zfO s r (by omega)
    repeat' ( simp -implicitDefEqProofs only [syms, symx, seval, c154, e1])
    rw [zb1 rfl rfl rfl (zkO _) rfl, e2]
    simp -implicitDefEqProofs only [syms, symx, seval, c154, e1]
    rw [zkI (by decide), e4]
    simp -implicitDefEqProofs only [syms, symx, seval, c154, e1]
    rw [zb1 rfl rfl rfl (zkq _) rfl, e3]
    repeat' ( simp -implicitDefEqProofs only [syms, symx, seval, c154, e1])
    have hhm : s ≤ (s + r) / 2 ∧ (s + r) / 2 < r := by omega
    have hwh : IntKind.i64.wrap ((((s + r) / 2 : Nat) : Int) + 1) = (((s + r) / 2 + 1 : Nat) : Int) := by rw [zae (by omega) (by omega)]; omega
    generalize (s + r) / 2 = y at hhm hwh ⊢
    have hix := zrp hinv hhm.1 hhm.2 ham hmb hm1 hm2
    have hwpc : IntKind.i64.wrap (((mid + m - 1 : Nat) : Int) - (y : Int)) = ((mid + m - 1 - y : Nat) : Int) := by rw [zae (by omega) (by omega)]; omega
    have hin : (0 : Int) ≤ (y : Int) ∧ (y : Int) < (l.length : Int) := by omega
    have hin1 : (0 : Int) ≤ ((mid + m - 1 - y : Nat) : Int) ∧ ((mid + m - 1 - y : Nat) : Int) < (l.length : Int) := by omega
    have hld := fun (bs : List Blk) (w : Nat) => zaQ (bs := bs) (w := w) q (zba (l := l) (i := y) (by omega))
    have hld1 := fun (bs : List Blk) (w : Nat) => zaQ (bs := bs) (w := w) q (zba (l := l) (i := mid + m - 1 - y) (by omega))
    refine (zdQ (by simp only [c154])) (z.upW _ _ (by omega)) ?_
    repeat' ( simp -implicitDefEqProofs only [syms, symx, seval, c154, hwpc, hin, hin1, and_self, if_true, ↓hld, ↓hld1, za7])
    refine zkG _ _ (zbQ hlt (by omega)) (zbQ hlt (by omega)) _ _ (fun h' x => ?_)
    (( ((with_reducible refine zbr ?_ ?_ ?_); (· exact (by (try simp only [lsz]); have := z.size; omega)); (·  exact x )) ); replace z := z.overW x (by (try simp only [lsz]); omega); (try replace q := q.over x); rw [zab h'])
    simp -implicitDefEqProofs only [syms, symx, seval, c154]
    refine zay (fun hc => ?_) (fun hc => ?_)
    · repeat' (first | simp -implicitDefEqProofs only [syms, symx, seval, c154] | ((with_reducible_and_instances apply zan); (· rfl)) | ((with_reducible refine ⟨z.grw.lay _ _, ?_⟩); (intro _ h' zz x _); (try simp only [zau, List.append_nil] at x); (try replace q := q.over x); (replace z := zz); (clear zz); rw [zab h']))
      (rw [hI5]; with_reducible refine zaf (m := _) ?_ ⟨s, y, _, rfl, z, ⟨rfl, zme hinv hhm.1 hhm.2 hc, q⟩, junk (by kernel_rfl)⟩; omega)
    · repeat' (first | simp -implicitDefEqProofs only [syms, symx, seval, c154] | ((with_reducible_and_instances apply zan); (· rfl)) | ((with_reducible refine ⟨z.grw.lay _ _, ?_⟩); (intro _ h' zz x _); (try simp only [zau, List.append_nil] at x); (try replace q := q.over x); (replace z := zz); (clear zz); rw [zab h']))
      rw [hwh]
      (rw [hI5]; with_reducible refine zaf (m := _) ?_ ⟨y + 1, r, _, rfl, z, ⟨rfl, zq8 hinv hhm.1 hhm.2 hc, q⟩, junk (by kernel_rfl)⟩; omega)
theorem zsg : ∀ sz, zsV sz
  | 0 => by intro l A c a m b h hs z hA q h1 h2 h3; omega
  | sz + 1 => zno sz (zsg sz)
theorem zp9 (l : List PlD) (A c : Nat) (h hs : Heap) (z : Ext h hs) (hA : h.size ≤ A) (q : Holds hs A (.row (za6 l) 133 false)) (hn : l.length ≤ 100000) (hlt : ∀ x ∈ l, x.light = true) (K : Value → Heap → Prop)
    (hk : ∀ h' l', Ext h h' → Holds h' A (.row (za6 l') 133 false) → l'.Perm l → StabP l l' → zat l' 0 l.length → K undef h') : Ok Tryz.prog tab ov 119 [.slice (some ⟨A, 0, none⟩) l.length c, .int .i64 l.length, .func (.func 85) ⟨[]⟩ ⟨[]⟩] hs K := by
  rw [zab hs]
  refine Ok.into rfl zmY (zaD N119) rfl (m := 60) rfl ?_
  simp -implicitDefEqProofs only [syms, symx, seval, c119]
  obtain ⟨I1, hI1⟩ : ∃ I : Nat → Env → Heap → Prop, I = (fun n e h' => ∃ (a : Nat) (l1 : List PlD) (h1 : Heap), h' = h1.lay [] h1.low ∧ Ext h h1 ∧ (n = l.length - a ∧ a % 20 = 0 ∧ a ≤ l.length ∧ l1.Perm l ∧ StabP l l1 ∧ BlP l1 20 l.length a ∧ Holds h1 A (.row (za6 l1) 133 false)) ∧ ∃ J : Nat → Value, e = (.slice (some ⟨A, 0, none⟩) l.length c :: .int .i64 l.length :: .func (.func 85) ⟨[]⟩ ⟨[]⟩ :: jr J 3 3 (.int .i64 20 :: .int .i64 a :: .int .i64 (a + 20 : Nat) :: jr J 9 54 ([])))) := ⟨_, rfl⟩
  refine zaI I1 _ (by rw [hI1]; exact ⟨0, l, _, rfl, z, ⟨rfl, by omega, by omega, List.Perm.refl _, StabP.refl _, fun k _ hk => absurd hk (by omega), q⟩, junk (by kernel_rfl)⟩) ?_
  intro n e h' hin
  rw [hI1] at hin
  obtain ⟨a, l1, h1', rfl, z, hinv, J, rfl⟩ := hin
  clear q
  obtain ⟨rfl, ha20, han, hp, hst, hbl, q⟩ := hinv
  have hl1 := hp.length_eq
  have hlt1 := zb8 hlt hp
  simp -implicitDefEqProofs only [syms, symx, seval, c119]
  refine zay (fun hle => ?_) (fun hle => ?_)
  · have hw1 : IntKind.i64.wrap (((a + 20 : Nat) : Int) + 20) = ((a + 20 + 20 : Nat) : Int) := by rw [zae (by omega) (by omega)]; omega
    repeat' ( simp -implicitDefEqProofs only [syms, symx, seval, c119])
    have key := fun K hk => zfA l1 A c a (a + 20) h (h1'.lay [] h1'.low) (z.upW _ _ (by omega)) hA (q.on _ _) (by omega) (by omega) (by omega) hlt1 K hk
    simp only [hl1] at key
    refine key _ (fun h' l' x q' hp' hst' hs' ho' => ?_)
    replace z := x
    rw [zab h']
    repeat' ( simp -implicitDefEqProofs only [syms, symx, seval, c119, hw1])
    (rw [hI1]; with_reducible refine zaf (m := _) ?_ ⟨a + 20, l', _, rfl, z, ⟨rfl, by omega, by omega, hp'.trans hp, hst.trans hst', zk2 hbl ha20 (by rw [show min (a + 20) l.length = a + 20 by omega]; exact hs') (by rw [show min (a + 20) l.length = a + 20 by omega]; exact ho') _ (by omega), q'⟩, junk (by kernel_rfl)⟩; omega)
  repeat' ( simp -implicitDefEqProofs only [syms, symx, seval, c119])
  have key := fun K hk => zfA l1 A c a l.length h (h1'.lay [] h1'.low) (z.upW _ _ (by omega)) hA (q.on _ _) (by omega) (by omega) (by omega) hlt1 K hk
  simp only [hl1] at key
  refine key _ (fun h' l' x q' hp' hst' hs' ho' => ?_)
  replace z := x
  replace hp := hp'.trans hp
  replace hst := hst.trans hst'
  replace hbl : BlP l' 20 l.length l.length := zk2 hbl ha20 (by rw [show min (a + 20) l.length = l.length by omega]; exact hs') (by rw [show min (a + 20) l.length = l.length by omega]; exact ho') _ (by omega)
  clear key hs' ho' hp' hst' hl1 hlt1 q
  rw [zab h']
  repeat' ( simp -implicitDefEqProofs only [syms, symx, seval, c119])
  obtain ⟨I2, hI2⟩ : ∃ I : Nat → Env → Heap → Prop, I = (fun n e h' => ∃ (w : Nat) (l1 : List PlD) (h1 : Heap), h' = h1.lay [] h1.low ∧ Ext h h1 ∧ (n = l.length - w ∧ 20 ≤ w ∧ w ≤ 200000 ∧ l1.Perm l ∧ StabP l l1 ∧ BlP l1 w l.length l.length ∧ Holds h1 A (.row (za6 l1) 133 false)) ∧ ∃ J : Nat → Value, e = (.slice (some ⟨A, 0, none⟩) l.length c :: .int .i64 l.length :: .func (.func 85) ⟨[]⟩ ⟨[]⟩ :: jr J 3 3 (.int .i64 w :: jr J 7 56 ([])))) := ⟨_, rfl⟩
  refine zaI I2 _ (by rw [hI2]; exact ⟨20, l', _, rfl, z, ⟨rfl, by omega, by omega, hp, hst, hbl, q'⟩, junk (by kernel_rfl)⟩) ?_
  intro n e h' hin
  rw [hI2] at hin
  obtain ⟨w, l1, h2', rfl, z, hinv, J, rfl⟩ := hin
  clear q' hbl hp hst
  obtain ⟨rfl, hw20, hw2k, hp, hst, hbl, q⟩ := hinv
  simp -implicitDefEqProofs only [syms, symx, seval, c119]
  refine zay (fun hlt2 => ?_) (fun hlt2 => ?_)
  rotate_left
  · repeat' ( simp -implicitDefEqProofs only [syms, symx, seval, c119])
    exact hk _ _ (z.upW _ _ (by omega)) (q.on _ _) hp hst (zx1 hbl (by omega))
  have hm2 : IntKind.i64.wrap ((2 : Int) * (w : Int)) = ((2 * w : Nat) : Int) := by rw [zae (by omega) (by omega)]; omega
  repeat' ( simp -implicitDefEqProofs only [syms, symx, seval, c119, hm2, ziU])
  obtain ⟨I3, hI3⟩ : ∃ I : Nat → Env → Heap → Prop, I = (fun n e h' => ∃ (a b : Nat) (l2 : List PlD) (h1 : Heap), h' = h1.lay [] h1.low ∧ Ext h h1 ∧ (n = l.length - a ∧ b = a + 2 * w ∧ a % (2 * w) = 0 ∧ a ≤ l.length ∧ l2.Perm l ∧ StabP l l2 ∧ DblP l2 w l.length a ∧ Holds h1 A (.row (za6 l2) 133 false)) ∧ ∃ J : Nat → Value, e = (.slice (some ⟨A, 0, none⟩) l.length c :: .int .i64 l.length :: .func (.func 85) ⟨[]⟩ ⟨[]⟩ :: jr J 3 3 (.int .i64 w :: .int .i64 a :: .int .i64 b :: jr J 9 54 ([])))) := ⟨_, rfl⟩
  refine zaI I3 _ (by rw [hI3]; exact ⟨0, 2 * w, l1, _, rfl, z, ⟨rfl, by omega, Nat.zero_mod _, by omega, hp, hst, zp6 hbl, q⟩, junk (by kernel_rfl)⟩) ?_
  intro n e h' hin
  rw [hI3] at hin
  obtain ⟨a, b, l2, h3', rfl, z, hinv, J, rfl⟩ := hin
  clear q hbl hp hst
  obtain ⟨rfl, hb, hamod, han, hp, hst, hdb, q⟩ := hinv
  have hl2 := hp.length_eq
  have hlt3 := zb8 hlt hp
  have haw : IntKind.i64.wrap ((a : Int) + (w : Int)) = ((a + w : Nat) : Int) := by rw [zae (by omega) (by omega)]; omega
  simp -implicitDefEqProofs only [syms, symx, seval, c119]
  refine zay (fun hle => ?_) (fun hle => ?_)
  · have hbw : IntKind.i64.wrap ((b : Int) + ((2 * w : Nat) : Int)) = ((b + 2 * w : Nat) : Int) := by rw [zae (by omega) (by omega)]; omega
    have hpa := zjw hdb (by omega) hamod (by omega)
    rw [show min (a + 2 * w) l.length = b by omega] at hpa
    repeat' ( simp -implicitDefEqProofs only [syms, symx, seval, c119, haw])
    have key := fun K hk => zsg l.length l2 A c a (a + w) b h (h3'.lay [] h3'.low) (z.upW _ _ (by omega)) hA (q.on _ _) (by omega) (by omega) (by omega) (by omega) (by omega) hlt3 hpa.1 hpa.2 K hk
    simp only [hl2] at key
    refine key _ (fun h' l' x q' hm' hs' => ?_)
    replace z := x
    rw [zab h']
    repeat' ( simp -implicitDefEqProofs only [syms, symx, seval, c119, hm2, ziU, hbw])
    have hstep := zmW (l' := l') hdb (by omega) hamod (by rw [show min (a + 2 * w) l.length = b by omega]; exact hs') (by rw [show min (a + 2 * w) l.length = b by omega]; exact hm')
    rw [show min (a + 2 * w) l.length = b by omega] at hstep
    (rw [hI3]; with_reducible refine zaf (m := _) ?_ ⟨b, b + 2 * w, l', _, rfl, z, ⟨rfl, by omega, by rw [hb, Nat.add_mod_right]; exact hamod, by omega, hm'.perm.trans hp, hst.trans hm'.stab, hstep, q'⟩, junk (by kernel_rfl)⟩; omega)
  have hw2 : IntKind.i64.wrap ((w : Int) * (2 : Int)) = ((2 * w : Nat) : Int) := by rw [zae (by omega) (by omega)]; omega
  repeat' (first | simp -implicitDefEqProofs only [syms, symx, seval, c119, haw] | ((with_reducible  apply zay ) <;> intro _))
  · have hpa := zjw hdb (by omega) hamod (by omega)
    rw [show min (a + 2 * w) l.length = l.length by omega] at hpa
    have key := fun K hk => zsg l.length l2 A c a (a + w) l.length h (h3'.lay [] h3'.low) (z.upW _ _ (by omega)) hA (q.on _ _) (by omega) (by omega) (by omega) (by omega) (by omega) hlt3 hpa.1 hpa.2 K hk
    simp only [hl2] at key
    refine key _ (fun h' l' x q' hm' hs' => ?_)
    replace z := x
    rw [zab h']
    repeat' ( simp -implicitDefEqProofs only [syms, symx, seval, c119, hw2, ziU])
    have hstep := zmW (l' := l') hdb (by omega) hamod (by rw [show min (a + 2 * w) l.length = l.length by omega]; exact hs') (by rw [show min (a + 2 * w) l.length = l.length by omega]; exact hm')
    rw [show min (a + 2 * w) l.length = l.length by omega] at hstep
    (rw [hI2]; with_reducible refine zaf (m := _) ?_ ⟨2 * w, l', _, rfl, z, ⟨rfl, by omega, by omega, hm'.perm.trans hp, hst.trans hm'.stab, zvm hstep (by omega), q'⟩, junk (by kernel_rfl)⟩; omega)
  · repeat' ( simp -implicitDefEqProofs only [syms, symx, seval, c119, hw2, ziU])
    (rw [hI2]; with_reducible refine zaf (m := _) ?_ ⟨2 * w, l2, _, rfl, z, ⟨rfl, by omega, by omega, hp, hst, zvV hdb (by omega) hamod (by omega), q⟩, junk (by kernel_rfl)⟩; omega)
theorem zjc (l : List PlD) (A c : Nat) (h hs : Heap) (z : Ext h hs) (hA : h.size ≤ A) (q : Holds hs A (.row (za6 l) 133 false)) (hn : l.length ≤ 100000) (hlt : ∀ x ∈ l, x.light = true) (K : Value → Heap → Prop)
    (hk : ∀ h' l', Ext h h' → Holds h' A (.row (za6 l') 133 false) → l'.Perm l → StabP l l' → zat l' 0 l.length → K undef h') : Ok Tryz.prog tab ov 84 [.slice (some ⟨A, 0, none⟩) l.length c, .func (.func 85) ⟨[]⟩ ⟨[]⟩] hs K := by
  rw [zab hs]
  refine Ok.into rfl zpC (zaD N84) rfl (m := 7) rfl ?_
  repeat' ( simp -implicitDefEqProofs only [syms, symx, seval, c84])
  refine zp9 l A c h (hs.lay [] hs.low) (z.upW _ _ (by omega)) hA (q.on _ _) hn hlt _ (fun h' l' x q' hp' hst' hs' => ?_)
  rw [zab h']
  repeat' ( simp -implicitDefEqProofs only [syms, symx, seval, c84])
  exact hk _ _ (x.upW _ _ (by omega)) (q'.on _ _) hp' hst' hs'
theorem zn6 (v : Value) (h : Heap) (hl : Sl Rep.placed h v []) (K : Value → Heap → Prop) (hk : ∀ h', Ext h h' → K undef h') : Ok Tryz.prog tab ov 84 [v, .func (.func 85) ⟨[]⟩ ⟨[]⟩] h K := by
  rw [zab h]
  have z := Ext.refl h
  have hln := fun (hh : Heap) => hl.lenA zkt hh
  have hva := zbI v
  simp only [List.length_nil] at hln
  have hn0 : ((0 : Nat) : Int) = 0 := rfl
  refine Ok.into rfl zpC (zaD N84) rfl (m := 7) rfl ?_
  repeat' ( simp -implicitDefEqProofs only [syms, symx, seval, c119, c84, c153, hln, hva, hn0])
  refine Ok.into rfl zmY (zaD N119) rfl (m := 60) rfl ?_
  simp -implicitDefEqProofs only [syms, symx, seval, c119, c84, c153, hln, hva, hn0]
  refine zeJ ?_
  simp -implicitDefEqProofs only [syms, symx, seval, c119, c84, c153, hln, hva, hn0, decide_false, zd6]
  refine Ok.into rfl zmt (zaD N153) rfl (m := 49) rfl ?_
  simp -implicitDefEqProofs only [syms, symx, seval, c119, c84, c153, hln, hva, hn0]
  refine zeJ ?_
  simp -implicitDefEqProofs only [syms, symx, seval, c119, c84, c153, hln, hva, hn0, decide_false, zd6]
  refine zeJ ?_
  simp -implicitDefEqProofs only [syms, symx, seval, c119, c84, c153, hln, hva, hn0, decide_false, zd6]
  exact hk _ (z.upW _ _ (by omega))
theorem zdM {T : Tab} {t u : TypeId} {hh : Heap} {bs : List Blk} {n w i o : Nat} {cs vs : List Value} {v : Value} (hb : bs[i]? = some (.row cs u false)) (hs : zaH T t = some n) (hv : v.cells.toList = vs) (hl : vs.length = n) (hc : o + n ≤ cs.length) (h1' : vs.all Am.one = true) :
    zaZ T t (.pointer (some ⟨hh.size + i, o, none⟩)) v (hh.lay bs w) = some (hh.lay (bs.set i (.row (splice cs o vs) u false)) (min w (hh.size + i))) := by
  have hg : (hh.lay bs w).get (hh.size + i) = some (.row cs u false) := by rw [zbx]; exact hb
  have hsz : v.cells.size = n := by rw [← hl, ← hv]; simp
  unfold zaZ
  simp only [hs, Option.bind_some]
  rw [if_pos hsz, hv]
  unfold zbT
  rw [hg]
  simp only
  rw [if_pos (by simp only [Bool.and_eq_true, decide_eq_true_eq]; exact ⟨by omega, h1'⟩), zb5 _ _ _ _ _ (List.getElem?_eq_some_iff.1 hb).1]
theorem zoF : zfJ tab 131 131 = true := by kernel_rfl
theorem zxD (s : SentD) : zc6 tab 133 [(1, s.val)] = some (⟨0, s⟩ : PlD).val := by kernel_rfl
theorem zw4 (i : Int) (s : SentD) : zc6 tab 133 [(0, .int .i64 i), (1, s.val)] = some (⟨i, s⟩ : PlD).val := by kernel_rfl
theorem znO (b : PlD) (z0 z1 z2 : Value) : zdY (fun i => some (i * 3, 3)) [z0, z1, z2] [(0, b.val)] = some b.cells := rfl
theorem zx4 (b : PlD) : cut b.cells 1 2 = some b.s.cells := rfl
theorem zyA (k m : Int) (s : SentD) : splice (⟨k, s⟩ : PlD).cells 0 [.int .i64 m] = (⟨m, s⟩ : PlD).cells := rfl
theorem zpG (a b : Value) (t : SentD) : splice [a, b] 0 t.cells = t.cells := rfl
theorem zpx (a b c : Value) (t : PlD) : splice [a, b, c] 0 t.cells = t.cells := rfl
theorem zxV {T : Tab} {t e : TypeId} {kd : IntKind} {i : Int} {v : Value} {h1 : Heap} {bs : List Blk} {w : Nat} {K : Value → Heap → Prop} {l : List PlD} {x : PlD} (f : Sl Rep.placed h1 v l) (hd : T.desc t = some (.slice e)) (hs : zaH T e = some 3) (h0 : 0 ≤ i) (hx : l[i.toNat]? = some x) (hk : ∀ p, AtP h1 p x.cells → K p (h1.lay bs w)) : valE (zal T t v (.int kd i)) (h1.lay bs w) K := by
  have hi := (List.getElem?_eq_some_iff.1 hx).1
  refine zdx f hd hs h0 (by omega) (fun x' p cs hx' hr hp => ?_)
  rw [hx] at hx'
  cases hx'
  exact hk p (hr ▸ hp)
theorem ldPl {T : Tab} {t : TypeId} {p : Value} {h1 : Heap} {bs : List Blk} {w : Nat} {K : Value → Heap → Prop} {x : PlD} (f : AtP h1 p x.cells) (hg : aggA T t = some true) (hs : zaH T t = some 3) (hk : K x.val (h1.lay bs w)) : valE (zaM T t p (h1.lay bs w)) (h1.lay bs w) K := zmw f hg hs rfl hk
theorem zsF (l : List PlD) (A : Nat) (v : Value) (h hs : Heap) (z : Ext h hs) (f : Ow Rep.placed h hs 133 A v l) (hn : l.length ≤ 100000) (hlt : ∀ x ∈ l, x.light = true) (K : Value → Heap → Prop)
    (hk : ∀ h' s, Ext h h' → s.Perm l → StabP l s → zat s 0 l.length → Sl Rep.placed h' v s → K undef h') : Ok Tryz.prog tab ov 84 [v, .func (.func 85) ⟨[]⟩ ⟨[]⟩] hs K := by
  rcases zrk f with ⟨rfl, he⟩ | ⟨A2, rfl, q, hA2, hne⟩
  · exact zn6 v hs he.sl _ (fun h' x => hk h' [] (z.trans x) (List.Perm.refl _) (StabP.refl _) (fun k h1 h2 => absurd h2 (by simp)) (he.sl.mono x.inc))
  · refine zjc l A2 _ h hs z hA2 q hn hlt _ (fun h' s x q' hp hst hsr => hk h' s x hp hst hsr ?_)
    have hG : 100000 < G := by unfold G; omega
    have hl2 := hp.length_eq
    obtain ⟨d1, d2, d3⟩ := zdm (k := 3) (q := l.length) (by decide) (by omega)
    have := zyk (o := 0) (s := s) (c := G * 3 + l.length) q' (.inr ⟨d1, d2, by rw [d3]; omega⟩) (by omega) (fun i x hx => by rw [Nat.zero_add]; exact hx)
    rw [hl2] at this
    simpa using this
def hidP (m : Int) (ps : List Int) (l : List SentD) : List PlD := l.mapIdx (fun i s => ⟨match ps[i]? with | some p => modD p m | none => 0, s⟩)
def lisP (l : List SentD) : List PlD := l.mapIdx (fun i s => ⟨(i : Int), s⟩)
def allP (m : Int) (ps : List Int) (H l : List SentD) : List PlD := hidP m ps H ++ lisP l
theorem ztD {m : Int} {ps : List Int} {l : List SentD} {i : Nat} {r : SentD} {k : Int} (hr : l[i]? = some r) (hk : (match ps[i]? with | some p => modD p m | none => 0) = k) : (hidP m ps l).take (i + 1) = (hidP m ps l).take i ++ [⟨k, r⟩] := by
  subst hk
  rw [List.take_add_one]
  unfold hidP
  rw [List.getElem?_mapIdx, hr]
  rfl
theorem zlJ {l : List SentD} {i : Nat} {r : SentD} (hr : l[i]? = some r) : (lisP l).take (i + 1) = (lisP l).take i ++ [⟨(i : Int), r⟩] := by
  rw [List.take_add_one]
  unfold lisP
  rw [List.getElem?_mapIdx, hr]
  rfl
theorem zhO (m : Int) (ps : List Int) (l : List SentD) : (hidP m ps l).length = l.length := by unfold hidP; rw [List.length_mapIdx]
theorem zhF (l : List SentD) : (lisP l).length = l.length := by unfold lisP; rw [List.length_mapIdx]
theorem zq6 {m : Int} {ps : List Int} {l : List SentD} (h1 : 1 ≤ m) (h2 : m ≤ 1000) : ∀ x ∈ hidP m ps l, x.light = true := by
  intro x hx
  obtain ⟨i, hi⟩ := List.getElem?_of_mem hx
  unfold hidP at hi
  rw [List.getElem?_mapIdx] at hi
  cases hl : l[i]? with
  | none => rw [hl] at hi; cases hi
  | some s =>
    rw [hl] at hi
    cases hi
    refine decide_eq_true ?_
    cases hp : ps[i]? with
    | none => exact ⟨by simp [hp], by simp [hp]⟩
    | some p =>
      have := zn5 p m h1
      exact ⟨by simp only [hp]; omega, by simp only [hp]; omega⟩
theorem zpN {l : List SentD} (h2 : l.length ≤ 1000) : ∀ x ∈ lisP l, x.light = true := by
  intro x hx
  obtain ⟨i, hi⟩ := List.getElem?_of_mem hx
  unfold lisP at hi
  rw [List.getElem?_mapIdx] at hi
  cases hl : l[i]? with
  | none => rw [hl] at hi; cases hi
  | some s =>
    have hil := (List.getElem?_eq_some_iff.1 hl).1
    rw [hl] at hi
    cases hi
    exact decide_eq_true ⟨by simp, by simp only; omega⟩
theorem zxR (d : PolicyD) (who : ByteArray) (l more : List SentD) (places : List Int) (v u pv : Value) (p0 p1 p2 p5 p6 : Value) (q b : Int) (h : Heap) (hsp : SpaceAt 1 h) (hone : (zaC p0 p1 p2 p5 p6 q b).all Am.one = true) (hd : PolK h p0 p1 p2 p5 p6 d) (hps : d.principals.length ≤ 1000) (hcl : d.clears.length ≤ 1000) (hrl : ∀ c ∈ d.clears, c.reads.length ≤ 40) (hl : Sl Rep.sent h v l) (hln : l.length ≤ 100) (hm : Sl Rep.sent h u more) (hmn : more.length ≤ 100) (hpm : ∀ s ∈ more, s.payload.size ≤ 100000) (hp : Sl Rep.int h pv places) (hpn : places.length ≤ 1000) (K : Value → Heap → Prop)
    (hk : ∀ h' w s, Ext h h' → s.Perm (allP (l.length + 1 : Nat) places (more.filter (fun s => !zaR d who s)) l) → StabP (allP (l.length + 1 : Nat) places (more.filter (fun s => !zaR d who s)) l) s → zat s 0 (allP (l.length + 1 : Nat) places (more.filter (fun s => !zaR d who s)) l).length → Sl Rep.sent h' w (s.map PlD.s) → K w h') : Ok Tryz.prog tab ov 38 [zdg p0 p1 p2 p5 p6 q b, .string who, v, u, pv] h K := by
  rw [zab h]
  have z := Ext.refl h
  have hva : ∀ (s : ByteArray) (h : Heap) (K : Value → Heap → Prop), valE (some (.string s)) h K = K (.string s) h := fun _ _ _ => rfl
  have hvv := zbI v
  have hvu := zbI u
  have hvp := zbI pv
  have hlv := fun (hh : Heap) => hl.lenA ds69 hh
  have hlp := fun (hh : Heap) => hp.lenA ds30 hh
  obtain ⟨H, hH⟩ : ∃ H, H = more.filter (fun s => !zaR d who s) := ⟨_, rfl⟩
  obtain ⟨m, hmm⟩ : ∃ m : Nat, m = l.length + 1 := ⟨_, rfl⟩
  have hHn : H.length ≤ 100 := by rw [hH]; exact Nat.le_trans (List.length_filter_le _ _) hmn
  rw [← hH, ← hmm] at hk
  refine Ok.into rfl zu1 (zaD N38) rfl (m := 74) rfl ?_
  repeat' ( simp -implicitDefEqProofs only [syms, symx, seval, c38, zav, ↓zaU, zaS, zaE, hvu, hva])
  refine zeU d who more _ _ _ _ _ _ _ _ _ (hsp.lay _ _) hone (hd.lay _ _) hps hcl hrl (hm.lay _ _) (by omega) hpm _ (fun h' wh x sh => ?_)
  rw [← hH] at sh
  ((skip); replace z := z.overW x (by (try simp only [lsz]); omega); rw [zab h'])
  have z1 := z
  replace hl := hl.mono z.inc
  replace hp := hp.mono z.inc
  clear z x
  obtain ⟨h, rfl⟩ : ∃ a, a = h' := ⟨_, rfl⟩
  have z := Ext.refl h
  have hvh := zbI wh
  have hlh := fun (hh : Heap) => sh.lenA ds69 hh
  simp -implicitDefEqProofs only [syms, symx, seval, c38, hvh, hlh]
  obtain ⟨I1, hI1⟩ : ∃ I : Nat → Env → Heap → Prop, I = (fun n e h' => ∃ (i : Nat) (wa : Value) (A : Nat) (h1 : Heap), h' = h1.lay [] h1.low ∧ Ext h h1 ∧ (n = H.length - i ∧ i ≤ H.length ∧ Ow Rep.placed h h1 133 A wa ((hidP m places H).take i)) ∧ ∃ J : Nat → Value, e = (jr J 0 2 (v :: J 3 :: pv :: jr J 5 6 (wa :: jr J 12 11 (wh :: .int .i64 H.length :: .int .i64 i :: jr J 26 53 ([])))))) := ⟨_, rfl⟩
  refine zaI I1 _ (by rw [hI1]; exact ⟨0, .slice none 0 0, h.size, _, rfl, z, ⟨rfl, by omega, Ow.nil (Nat.le_refl _)⟩, junk (by kernel_rfl)⟩) ?_
  intro n e h' hin
  rw [hI1] at hin
  obtain ⟨i, wa, A, h1', rfl, z, hinv, J, rfl⟩ := hin
  obtain ⟨rfl, hi, oz⟩ := hinv
  have hwi : IntKind.i64.wrap ((i : Int) + 1) = ((i + 1 : Nat) : Int) := by rw [zae (by omega) (by omega)]; omega
  have hwm : IntKind.i64.wrap ((l.length : Int) + 1) = ((m : Nat) : Int) := by rw [zae (by omega) (by omega)]; omega
  have hvw := zbI wa
  simp -implicitDefEqProofs only [syms, symx, seval, c38]
  refine zay (fun hlt => ?_) (fun hlt => ?_)
  · obtain ⟨r, hr, hr'⟩ := zbP (l := H) (i := i) (by omega)
    simp -implicitDefEqProofs only [syms, symx, seval, c38, hvh]
    repeat' ((first | with_reducible_and_instances refine ze2 (sh.mono z.inc) ds69 sz62 (by omega) hr (fun p hp => ?_) | with_reducible_and_instances refine ldS hp ag62 sz62 ?_) <;> simp -implicitDefEqProofs only [syms, symx, seval, c38, hvh])
    rw [zdM (i := 0) (n := 2) (vs := r.cells) rfl (by kernel_rfl) rfl rfl (by decide) rfl, zpG, List.set_cons_zero]
    simp -implicitDefEqProofs only [syms, symx, seval, c38, ↓zeL, zd7, zcK, zxD, za7]
    rw [zdM (i := 1) (n := 3) (vs := (⟨0, r⟩ : PlD).cells) rfl (by kernel_rfl) rfl rfl (by decide) rfl, zpx, List.set_cons_succ, List.set_cons_zero]
    clear hp
    simp -implicitDefEqProofs only [syms, symx, seval, c38, hvp, hlp]
    have htk := fun k => ztD (m := (m : Int)) (ps := places) (k := k) hr'
    have hHl : (hidP m places H).length = H.length := zhO _ _ _
    have htl : ((hidP m places H).take i).length ≤ 100 := by rw [List.length_take]; omega
    refine zay (fun hip => ?_) (fun hip => ?_)
    · obtain ⟨pk, hpk, hpk'⟩ := zbP (l := places) (i := i) (by omega)
      have hbm := zn5 pk m (by omega)
      have htk := htk (modD pk m) (by rw [hpk'])
      simp -implicitDefEqProofs only [syms, symx, seval, c38, hvp, hvv, hlv, hwm]
      repeat' ((first | with_reducible_and_instances refine zyN (hp.mono z.inc) ds30 sz3 (by omega) hpk (fun p hp => ?_) | with_reducible_and_instances refine zed hp ag3 ?_) <;> simp -implicitDefEqProofs only [syms, symx, seval, c38, hvp, hvv, hlv, hwm])
      refine zrT _ _ _ _ (by omega) (by omega) ?_
      simp -implicitDefEqProofs only [syms, symx, seval, c38]
      rw [zdM (i := 1) (n := 1) (vs := [.int .i64 (modD pk m)]) rfl (by kernel_rfl) rfl rfl (show 0 + 1 ≤ 3 by decide) rfl, zyA, List.set_cons_succ, List.set_cons_zero]
      simp -implicitDefEqProofs only [syms, symx, seval, c38, hvw, ↓zj5, zjs, za7, znO]
      simp -implicitDefEqProofs only [syms, symx, seval, c38, zeX, zoF]
      refine zo2 (i := 2) (cs := (⟨modD pk m, r⟩ : PlD).cells) (x := ⟨modD pk m, r⟩) zkt zdi rfl (by decide) (by rfl) z.size oz rfl (by omega) (by omega) (fun w3 h3 A3 ow3 cg3 hA3 => ?_)
      have hfA := oz.fresh
      rw [← htk] at ow3
      replace z := z.stepW cg3 hfA (by omega)
      clear oz
      rw [zab h3]
      repeat' ( simp -implicitDefEqProofs only [syms, symx, seval, c38])
      rw [hwi]
      (rw [hI1]; with_reducible refine zaf (m := _) ?_ ⟨i + 1, w3, A3, _, rfl, z, ⟨rfl, by omega, ow3⟩, junk (by kernel_rfl)⟩; omega)
    · have htk := htk 0 (by rw [List.getElem?_eq_none (by omega)])
      simp -implicitDefEqProofs only [syms, symx, seval, c38, hvw, ↓zj5, zjs, za7, znO]
      simp -implicitDefEqProofs only [syms, symx, seval, c38, zeX, zoF]
      refine zo2 (i := 2) (cs := (⟨0, r⟩ : PlD).cells) (x := ⟨0, r⟩) zkt zdi rfl (by decide) (by rfl) z.size oz rfl (by omega) (by omega) (fun w3 h3 A3 ow3 cg3 hA3 => ?_)
      have hfA := oz.fresh
      rw [← htk] at ow3
      replace z := z.stepW cg3 hfA (by omega)
      clear oz
      rw [zab h3]
      repeat' ( simp -implicitDefEqProofs only [syms, symx, seval, c38])
      rw [hwi]
      (rw [hI1]; with_reducible refine zaf (m := _) ?_ ⟨i + 1, w3, A3, _, rfl, z, ⟨rfl, by omega, ow3⟩, junk (by kernel_rfl)⟩; omega)
  rw [List.take_of_length_le (by rw [zhO]; omega)] at oz
  clear hi hlt hwi hvw
  repeat' ( simp -implicitDefEqProofs only [syms, symx, seval, c38, hvv, hlv])
  obtain ⟨I2, hI2⟩ : ∃ I : Nat → Env → Heap → Prop, I = (fun n e h' => ∃ (i : Nat) (wa : Value) (A : Nat) (h1 : Heap), h' = h1.lay [] h1.low ∧ Ext h h1 ∧ (n = l.length - i ∧ i ≤ l.length ∧ Ow Rep.placed h h1 133 A wa (hidP m places H ++ (lisP l).take i)) ∧ ∃ J : Nat → Value, e = (jr J 0 11 (wa :: jr J 12 38 (v :: .int .i64 l.length :: .int .i64 i :: jr J 53 26 ([]))))) := ⟨_, rfl⟩
  refine zaI I2 _ (by rw [hI2]; exact ⟨0, wa, A, _, rfl, z, ⟨rfl, by omega, by simpa using oz⟩, junk (by kernel_rfl)⟩) ?_
  intro n e h' hin
  rw [hI2] at hin
  obtain ⟨i, wa, A, h1', rfl, z, hinv, J, rfl⟩ := hin
  clear oz
  obtain ⟨rfl, hi, oz⟩ := hinv
  have hwi : IntKind.i64.wrap ((i : Int) + 1) = ((i + 1 : Nat) : Int) := by rw [zae (by omega) (by omega)]; omega
  have hvw := zbI wa
  have htl : (hidP m places H ++ (lisP l).take i).length ≤ 200 := by rw [List.length_append, zhO, List.length_take, zhF]; omega
  simp -implicitDefEqProofs only [syms, symx, seval, c38]
  refine zay (fun hlt => ?_) (fun hlt => ?_)
  · obtain ⟨r, hr, hr'⟩ := zbP (l := l) (i := i) (by omega)
    have htk := zlJ hr'
    simp -implicitDefEqProofs only [syms, symx, seval, c38, hvv]
    repeat' ((first | with_reducible_and_instances refine ze2 (hl.mono z.inc) ds69 sz62 (by omega) hr (fun p hp => ?_) | with_reducible_and_instances refine ldS hp ag62 sz62 ?_) <;> simp -implicitDefEqProofs only [syms, symx, seval, c38, hvv])
    rw [zdM (i := 0) (n := 2) (vs := r.cells) rfl (by kernel_rfl) rfl rfl (by decide) rfl, zpG, List.set_cons_zero]
    simp -implicitDefEqProofs only [syms, symx, seval, c38, ↓zeL, zd7, zcK, zw4, za7, hvw, znO]
    simp -implicitDefEqProofs only [syms, symx, seval, c38, zeX, zoF]
    refine zo2 (i := 1) (cs := (⟨(i : Int), r⟩ : PlD).cells) (x := ⟨(i : Int), r⟩) zkt zdi rfl (by decide) (by rfl) z.size oz rfl (by omega) (by omega) (fun w3 h3 A3 ow3 cg3 hA3 => ?_)
    have hfA := oz.fresh
    rw [List.append_assoc, ← htk] at ow3
    replace z := z.stepW cg3 hfA (by omega)
    clear oz
    rw [zab h3]
    repeat' ( simp -implicitDefEqProofs only [syms, symx, seval, c38])
    rw [hwi]
    (rw [hI2]; with_reducible refine zaf (m := _) ?_ ⟨i + 1, w3, A3, _, rfl, z, ⟨rfl, by omega, ow3⟩, junk (by kernel_rfl)⟩; omega)
  rw [List.take_of_length_le (by rw [zhF]; omega)] at oz
  have htl : (hidP m places H ++ lisP l).length ≤ 200 := by rw [List.length_append, zhO, zhF]; omega
  have hltA : ∀ x ∈ hidP m places H ++ lisP l, x.light = true := by
    intro x hx
    rcases List.mem_append.1 hx with hx | hx
    · exact zq6 (by omega) (by omega) x hx
    · exact zpN (by omega) x hx
  clear hi hlt hwi
  repeat' ( simp -implicitDefEqProofs only [syms, symx, seval, c38, hvw])
  refine zsF _ A wa h _ (z.upW _ _ (by omega)) (oz.mono (Inc.lay _ _ _)) (by omega) hltA _ (fun h' s x hperm hstab hsort ss => ?_)
  have z2 := z1.trans x
  have hsn := hperm.length_eq
  clear z x oz z1 hl hp sh
  obtain ⟨h, rfl⟩ : ∃ a, a = h' := ⟨_, rfl⟩
  have z := Ext.refl h
  rw [zab h]
  have hls := fun (hh : Heap) => ss.lenA zkt hh
  repeat' ( simp -implicitDefEqProofs only [syms, symx, seval, c38, hvw, hls])
  obtain ⟨I3, hI3⟩ : ∃ I : Nat → Env → Heap → Prop, I = (fun n e h' => ∃ (i : Nat) (wo : Value) (A : Nat) (h1 : Heap), h' = h1.lay [] h1.low ∧ Ext h h1 ∧ (n = s.length - i ∧ i ≤ s.length ∧ Ow Rep.sent h h1 62 A wo ((s.take i).map PlD.s)) ∧ ∃ J : Nat → Value, e = (jr J 0 17 (wo :: jr J 18 48 (wa :: .int .i64 s.length :: .int .i64 i :: jr J 69 10 ([]))))) := ⟨_, rfl⟩
  refine zaI I3 _ (by rw [hI3]; exact ⟨0, .slice none 0 0, h.size, _, rfl, z, ⟨rfl, by omega, Ow.nil (Nat.le_refl _)⟩, junk (by kernel_rfl)⟩) ?_
  intro n e h' hin
  rw [hI3] at hin
  obtain ⟨i, wo, A, h1', rfl, z, hinv, J, rfl⟩ := hin
  obtain ⟨rfl, hi, oz⟩ := hinv
  have hwi : IntKind.i64.wrap ((i : Int) + 1) = ((i + 1 : Nat) : Int) := by rw [zae (by omega) (by omega)]; omega
  have hvo := zbI wo
  have htl2 : ((s.take i).map PlD.s).length ≤ 200 := by rw [List.length_map, List.length_take]; omega
  simp -implicitDefEqProofs only [syms, symx, seval, c38]
  refine zay (fun hlt => ?_) (fun hlt => ?_)
  · obtain ⟨r, hr, hr'⟩ := zbP (l := s) (i := i) (by omega)
    have htk : (s.take (i + 1)).map PlD.s = (s.take i).map PlD.s ++ [r.s] := by rw [List.take_add_one, hr']; simp
    simp -implicitDefEqProofs only [syms, symx, seval, c38, hvw]
    repeat' ((first | with_reducible_and_instances refine zxV (ss.mono z.inc) zkt ziz (by omega) hr (fun p hp => ?_) | with_reducible_and_instances refine ldPl hp zyn ziz ?_) <;> simp -implicitDefEqProofs only [syms, symx, seval, c38, hvw])
    rw [zdM (i := 0) (n := 3) (vs := r.cells) rfl (by kernel_rfl) rfl rfl (by decide) rfl, zpx, List.set_cons_zero]
    simp -implicitDefEqProofs only [syms, symx, seval, c38, ↓zx4, zd7, zcK, hvo, zrY]
    simp -implicitDefEqProofs only [syms, symx, seval, c38, zeX, zzc]
    refine zo2 (i := 1) (cs := r.s.cells) (x := r.s) ds69 zdK rfl (by decide) (by rfl) z.size oz rfl (by omega) (by omega) (fun w3 h3 A3 ow3 cg3 hA3 => ?_)
    have hfA := oz.fresh
    rw [← htk] at ow3
    replace z := z.stepW cg3 hfA (by omega)
    clear oz
    rw [zab h3]
    repeat' ( simp -implicitDefEqProofs only [syms, symx, seval, c38])
    rw [hwi]
    (rw [hI3]; with_reducible refine zaf (m := _) ?_ ⟨i + 1, w3, A3, _, rfl, z, ⟨rfl, by omega, ow3⟩, junk (by kernel_rfl)⟩; omega)
  rw [List.take_of_length_le (by omega)] at oz
  repeat' ( simp -implicitDefEqProofs only [syms, symx, seval, c38, hvo])
  exact hk _ _ s ((z2.trans z).upW _ _ (by have := (z2.trans z).low; omega)) hperm hstab hsort ((oz.sl (by decide)).lay _ _)
end Go.Proofs.YtemapihoobmonaaGreatDoor
namespace Go.Proofs.YtemapihoobmonaaGreatDoor
open Go.Am
set_option linter.unusedVariables false
theorem ztT {s : List PlD} (h : zat s 0 s.length) : s.Pairwise (fun a b => a.at_ ≤ b.at_) := by
  rw [List.pairwise_iff_getElem]
  intro i j hi hj hij
  have := zbf h (i := i) (j := j) (Nat.zero_le _) (Nat.le_of_lt hij) hj
  have e1 : s.getD i zar = s[i] := by rw [List.getD_eq_getElem?_getD, List.getElem?_eq_getElem hi]; rfl
  have e2 : s.getD j zar = s[j] := by rw [List.getD_eq_getElem?_getD, List.getElem?_eq_getElem hj]; rfl
  rw [e1, e2] at this
  unfold za8 at this
  omega
theorem znw {s : List PlD} (h : s.Pairwise (fun a b => a.at_ ≤ b.at_)) (t : Int) : s.filter (fun x => decide (x.at_ < t + 1)) = s.filter (fun x => decide (x.at_ < t)) ++ s.filter (fun x => x.at_ == t) := by
  induction h with
  | nil => rfl
  | @cons a l ha hl ih =>
    by_cases h1 : a.at_ < t
    · rw [List.filter_cons_of_pos (by simp; omega), List.filter_cons_of_pos (by simpa using h1), List.filter_cons_of_neg (by simp; omega), ih, List.cons_append]
    · have hn : l.filter (fun x => decide (x.at_ < t)) = [] := by
        rw [List.filter_eq_nil_iff]
        intro x hx
        have := ha x hx
        simp; omega
      rw [hn, List.nil_append] at ih
      rw [List.filter_cons_of_neg (p := fun x : PlD => decide (x.at_ < t)) (by simpa using h1), hn, List.nil_append]
      by_cases h2 : a.at_ = t
      · rw [List.filter_cons_of_pos (by simp; omega), List.filter_cons_of_pos (by simpa using h2), ih]
      · rw [List.filter_cons_of_neg (by simp; omega), List.filter_cons_of_neg (by simpa using h2), ih]
theorem zrv {l : List SentD} {t : Nat} {r : SentD} (h : l[t]? = some r) : (⟨(t : Int), r⟩ : PlD) ∈ (lisP l).filter (fun x => x.at_ == (t : Int)) := by
  rw [List.mem_filter]
  refine ⟨?_, by simp⟩
  unfold lisP
  rw [List.mem_iff_getElem?]
  exact ⟨t, by rw [List.getElem?_mapIdx, h]; rfl⟩
theorem zmI {m : Int} {ps : List Int} {H l : List SentD} {s : List PlD} (hst : StabP (allP m ps H l) s) (hso : zat s 0 s.length) : ∀ t, t ≤ l.length → ((lisP l).take t).Sublist (s.filter (fun x => decide (x.at_ < (t : Int))))
  | 0, _ => by simp
  | t + 1, ht => by
    obtain ⟨r, hr⟩ : ∃ r, l[t]? = some r := ⟨l[t], List.getElem?_eq_getElem (by omega)⟩
    rw [zlJ hr, show ((t + 1 : Nat) : Int) = (t : Int) + 1 by omega, znw (ztT hso)]
    refine List.Sublist.append (zmI hst hso t (by omega)) ?_
    have e : s.filter (fun x => x.at_ == (t : Int)) = (allP m ps H l).filter (fun x => x.at_ == (t : Int)) := hst (t : Int)
    rw [e]
    unfold allP
    rw [List.filter_append]
    refine List.Sublist.trans ?_ (List.sublist_append_right _ _)
    exact List.singleton_sublist.2 (zrv hr)
theorem zwt (l : List SentD) : (lisP l).map PlD.s = l := by
  apply List.ext_getElem?
  intro i
  unfold lisP
  rw [List.getElem?_map, List.getElem?_mapIdx]
  cases l[i]? <;> rfl
theorem zyD (m : Int) (ps : List Int) (l : List SentD) : (hidP m ps l).map PlD.s = l := by
  apply List.ext_getElem?
  intro i
  unfold hidP
  rw [List.getElem?_map, List.getElem?_mapIdx]
  cases l[i]? <;> rfl
theorem zfD {m : Int} {ps : List Int} {H l : List SentD} {s : List PlD} (hst : StabP (allP m ps H l) s) (hso : zat s 0 s.length) : l.Sublist (s.map PlD.s) := by
  have h1 := zmI hst hso l.length (Nat.le_refl _)
  rw [List.take_of_length_le (by rw [zhF]; exact Nat.le_refl _)] at h1
  have h2 := (h1.trans List.filter_sublist).map PlD.s
  rwa [zwt] at h2
theorem zgN {m : Int} {ps : List Int} {H l : List SentD} {s : List PlD} (hp : s.Perm (allP m ps H l)) : (s.map PlD.s).Perm (H ++ l) := by
  have := hp.map PlD.s
  unfold allP at this
  rwa [List.map_append, zyD, zwt] at this
theorem zpJ {m : Int} {ps : List Int} {more l : List SentD} {s : List PlD} {k : SentD → Bool} (hp : s.Perm (allP m ps (more.filter (fun x => !k x)) l)) (hst : StabP (allP m ps (more.filter (fun x => !k x)) l) s) (hso : zat s 0 s.length) : (s.map PlD.s).filter k = l.filter k := by
  have h1 := ((zfD hst hso).filter k)
  have h2 := ((zgN hp).filter k).length_eq
  rw [List.filter_append, List.filter_filter] at h2
  have h3 : more.filter (fun x => k x && !k x) = [] := by
    rw [List.filter_eq_nil_iff]
    intro x _
    cases k x <;> simp
  rw [h3, List.nil_append] at h2
  exact (h1.eq_of_length h2.symm).symm
theorem zsT {m : Int} {ps : List Int} {H l : List SentD} {s : List PlD} (hp : s.Perm (allP m ps H l)) : (s.map PlD.s).length = l.length + H.length := by
  rw [(zgN hp).length_eq, List.length_append]
  omega
theorem ziP {α : Type} (k : α → Bool) : ∀ l : List α, (l.filter k).length + (l.filter (fun x => !k x)).length = l.length
  | [] => rfl
  | x :: l => by
    have := ziP k l
    cases h : k x
    · rw [List.filter_cons_of_neg (by simp [h]), List.filter_cons_of_pos (by simp [h])]
      simp only [List.length_cons]; omega
    · rw [List.filter_cons_of_pos (by simp [h]), List.filter_cons_of_neg (by simp [h])]
      simp only [List.length_cons]; omega
theorem zop {α : Type} (k : α → Bool) (l : List α) : (l.filter k).filter (fun x => !k x) = [] := by
  rw [List.filter_eq_nil_iff]
  intro x hx
  rw [(List.mem_filter.1 hx).2]
  simp
theorem zn4 {α : Type} (k : α → Bool) (l : List α) : (l.filter k).filter k = l.filter k := by
  rw [List.filter_filter]
  congr 1
  funext x
  exact Bool.and_self _
theorem zqa {l M : List SentD} {i a : Nat} {x y : SentD} (h : (l.drop a).Sublist (M.drop i)) (hx : M[i]? = some x) (hy : l[a]? = some y) (he : x = y) : (l.drop (a + 1)).Sublist (M.drop (i + 1)) := by
  have h1 := (List.getElem?_eq_some_iff.1 hx)
  have h2 := (List.getElem?_eq_some_iff.1 hy)
  rw [List.drop_eq_getElem_cons h1.1, List.drop_eq_getElem_cons h2.1, h1.2, h2.2, he] at h
  exact List.cons_sublist_cons.1 h
theorem znH {l M : List SentD} {i a : Nat} {x y : SentD} (h : (l.drop a).Sublist (M.drop i)) (hx : M[i]? = some x) (hy : l[a]? = some y) (he : ¬ x = y) : (l.drop a).Sublist (M.drop (i + 1)) := by
  have h1 := (List.getElem?_eq_some_iff.1 hx)
  have h2 := (List.getElem?_eq_some_iff.1 hy)
  rw [List.drop_eq_getElem_cons h1.1, List.drop_eq_getElem_cons h2.1, h1.2, h2.2] at h
  rw [List.drop_eq_getElem_cons h2.1, h2.2]
  cases h with
  | cons _ h => exact h
  | cons_cons _ h => exact absurd rfl he
end Go.Proofs.YtemapihoobmonaaGreatDoor
namespace Go.Proofs.YtemapihoobmonaaGreatDoor
open Go.Am
set_option linter.unusedSimpArgs false
set_option linter.unusedVariables false
set_option maxRecDepth 100000
set_option maxHeartbeats 0
theorem zug (a b : SentD) : binA Tryz.prog tab .eql 62 a.val b.val = some (.bool (decide (a = b))) := by
  have h1 : binA Tryz.prog tab .eql 62 a.val b.val = (eqS a b).map fun b => .bool b := by kernel_rfl
  rw [h1, zoZ]; rfl
theorem ziY (d : PolicyD) (who : ByteArray) (l more : List SentD) (places : List Int) (v lv mv pv : Value) (h : Heap) (hsp : SpaceAt 1 h) (hx : PolV h v d) (hl : Sl Rep.sent h lv l) (hm : Sl Rep.sent h mv more) (hp : Sl Rep.int h pv places) (K : Value → Heap → Prop)
    (hk : ∀ h', Ext h h' → K (.bool true) h') : Ok Tryz.prog tab ov 8 [v, .string who, lv, mv, pv] h K := by
  obtain ⟨p0, p1, p2, p5, p6, q, b, rfl, hd⟩ := hx
  have hone := hd.one q b
  rw [zab h]
  have z := Ext.refl h
  have hva : ∀ (s : ByteArray) (h : Heap) (K : Value → Heap → Prop), valE (some (.string s)) h K = K (.string s) h := fun _ _ _ => rfl
  have hvl := zbI lv
  have hvm := zbI mv
  have hvp := zbI pv
  have hll := fun (hh : Heap) => hl.lenA ds69 hh
  have hlm := fun (hh : Heap) => hm.lenA ds69 hh
  have hlp := fun (hh : Heap) => hp.lenA ds30 hh
  refine Ok.into rfl zxC (zaD N8) rfl (m := 122) rfl ?_
  simp -implicitDefEqProofs only [syms, symx, seval, c8, zav, hva]
  refine Ok.over (g := zqA 1) rfl (zuZ (hsp.lay _ _)) ?_
  repeat' (first | simp -implicitDefEqProofs only [syms, symx, seval, c8, Bool.not_true, zav, ↓zaU, zaS, zaE, hvl] | ((with_reducible_and_instances apply zan); (· rfl)))
  refine zfx d l _ _ _ _ _ _ _ _ _ (hd.lay _ _) (hl.lay _ _) _ (fun b0 b2 b3 b8 b9 h' x => ?_) (fun h' x => ?_)
  rotate_left
  · (( skip); replace z := z.overW x (by (try simp only [lsz]); omega); rw [zab h'])
    repeat' (first | simp -implicitDefEqProofs only [syms, symx, seval, c8, Bool.not_false] | ((with_reducible_and_instances apply zan); (· rfl)))
    exact hk _ (z.upW _ _ (by omega))
  have qP := Holds.top (i := 0) x rfl
  (( skip); replace z := z.overW x (by (try simp only [lsz]); omega); rw [zab h'])
  obtain ⟨P0, hP0⟩ : ∃ P0, P0 = h.size + 0 := ⟨_, rfl⟩
  rw [← hP0] at qP
  rw [← hP0]
  simp -implicitDefEqProofs only [syms, symx, seval, c8, Bool.not_true, hva, hvm, qP.lay, zav, ↓zaU, zaS, zaE]
  (with_reducible_and_instances apply zan); (· rfl)
  simp -implicitDefEqProofs only [syms, symx, seval, c8, Bool.not_true, hva, hvm, qP.lay, zav, ↓zaU, zaS, zaE]
  refine zfx d more _ _ _ _ _ _ _ _ _ ((hd.mono z.inc).lay _ _) ((hm.mono z.inc).lay _ _) _ (fun _ _ _ b8m b9m h' x => ?_) (fun h' x => ?_)
  rotate_left
  · (( skip); replace z := z.overW x (by (try simp only [lsz]); omega); (try replace qP := qP.over x); rw [zab h'])
    simp -implicitDefEqProofs only [syms, symx, seval, c8, Bool.not_false]
    (with_reducible_and_instances apply zan); (· rfl)
    simp -implicitDefEqProofs only [syms, symx, seval, c8, Bool.not_false]
    exact hk _ (z.upW _ _ (by omega))
  (( skip); replace z := z.overW x (by (try simp only [lsz]); omega); (try replace qP := qP.over x); rw [zab h'])
  simp -implicitDefEqProofs only [syms, symx, seval, c8, Bool.not_true, hvp, hlp]
  (with_reducible_and_instances apply zan); (· rfl)
  simp -implicitDefEqProofs only [syms, symx, seval, c8, Bool.not_true, hvp, hlp]
  refine zay (fun hgt => ?_) (fun hgt => ?_)
  · simp -implicitDefEqProofs only [syms, symx, seval, c8]
    exact hk _ (z.upW _ _ (by omega))
  have hps : d.principals.length ≤ 1000 := by omega
  have hcl : d.clears.length ≤ 1000 := by omega
  have hpl : ∀ s ∈ l, s.payload.size ≤ 100000 := fun s hs => Nat.le_trans (b9 s hs) (by decide)
  have hpm : ∀ s ∈ more, s.payload.size ≤ 100000 := fun s hs => Nat.le_trans (b9m s hs) (by decide)
  repeat' ( simp -implicitDefEqProofs only [syms, symx, seval, c8, qP.lay, hva, hvl, hvm, hvp, zav, ↓zaU, zaS, zaE])
  refine zxR d who l more places _ _ _ _ _ _ _ _ _ _ _ ((hsp.ext z).lay _ _) hone ((hd.mono z.inc).lay _ _).k hps hcl b3 ((hl.mono z.inc).lay _ _) (by omega) ((hm.mono z.inc).lay _ _) (by omega) hpm ((hp.mono z.inc).lay _ _) (by omega) _ (fun h' wM s x hperm hstab hsort sM => ?_)
  (( skip); replace z := z.overW x (by (try simp only [lsz]); omega); (try replace qP := qP.over x); rw [zab h'])
  have hal : (allP (l.length + 1 : Nat) places (more.filter (fun s => !zaR d who s)) l).length = s.length := hperm.length_eq.symm
  rw [hal] at hsort
  have e1 := zpJ (k := zaR d who) hperm hstab hsort
  have e2 := zsT hperm
  have e3 := zfD hstab hsort
  have e4 : ∀ x ∈ s.map PlD.s, x.payload.size ≤ 100000 := by
    intro x hx
    rcases List.mem_append.1 ((zgN hperm).mem_iff.1 hx) with g | g
    · exact hpm x (List.mem_filter.1 g).1
    · exact hpl x g
  have hHn : (more.filter (fun s => !zaR d who s)).length ≤ 30 := Nat.le_trans (List.length_filter_le _ _) (by omega)
  generalize s.map PlD.s = M at e1 e2 e3 e4 sM
  have hvM := zbI wM
  have hlM := fun (hh : Heap) => sM.lenA ds69 hh
  simp -implicitDefEqProofs only [syms, symx, seval, c8, qP.lay, hva, hvl, hvm, hvp, zav, ↓zaU, zaS, zaE]
  with_reducible first | refine zdQ (by simp only [c8]) (z.upW _ _ (by omega)) ?_
  simp -implicitDefEqProofs only [syms, symx, seval, c8, qP.lay, hva, hvl, hvm, hvp, zav, ↓zaU, zaS, zaE]
  refine zc9 d who l _ _ _ _ _ _ _ _ _ ((hsp.ext z).lay _ _) hone ((hd.mono z.inc).lay _ _).k hps hcl b3 ((hl.mono z.inc).lay _ _) (by omega) hpl _ (fun h' wk x sk => ?_)
  (( ((with_reducible refine zbr ?_ ?_ ?_); (· exact (by (try simp only [lsz]); have := z.size; omega)); (·  exact x )) ); replace z := z.overW x (by (try simp only [lsz]); omega); (try replace qP := qP.over x); (try replace sM := sM.over x); rw [zab h'])
  have hvk := zbI wk
  simp -implicitDefEqProofs only [syms, symx, seval, c8, qP.lay, hva, hvl, hvm, hvp, zav, ↓zaU, zaS, zaE]
  refine zeU d who more _ _ _ _ _ _ _ _ _ ((hsp.ext z).lay _ _) hone ((hd.mono z.inc).lay _ _).k hps hcl b3 ((hm.mono z.inc).lay _ _) (by omega) hpm _ (fun h' wh x sh => ?_)
  (( ((with_reducible refine zbr ?_ ?_ ?_); (· exact (by (try simp only [lsz]); have := z.size; omega)); (·  exact x )) ); replace z := z.overW x (by (try simp only [lsz]); omega); (try replace qP := qP.over x); (try replace sM := sM.over x); (try replace sk := sk.over x); rw [zab h'])
  have hvh := zbI wh
  have hlh := fun (hh : Heap) => sh.lenA ds69 hh
  simp -implicitDefEqProofs only [syms, symx, seval, c8, hvk, hvh]
  ((with_reducible refine ⟨z.grw.lay _ _, ?_⟩); (intro _ h' zz x _); (try simp only [zau, List.append_nil] at x); (try replace qP := qP.over x); (try replace sM := sM.over x); (try replace sk := sk.over x); (try replace sh := sh.over x); (replace z := zz); (clear zz); rw [zab h'])
  simp -implicitDefEqProofs only [syms, symx, seval, c8, qP.lay, hva, hvl, hvm, hvp, zav, ↓zaU, zaS, zaE, hvM]
  have hkn : (l.filter (zaR d who)).length ≤ 30 := Nat.le_trans (List.length_filter_le _ _) (by omega)
  have hMn : M.length ≤ 60 := by omega
  have hkp : ∀ s ∈ l.filter (zaR d who), s.payload.size ≤ 100000 := fun s hs => hpl s (List.mem_filter.1 hs).1
  refine zrU d who l M _ _ _ _ _ _ _ _ _ _ ((hsp.ext z).lay _ _) hone ((hd.mono z.inc).lay _ _).k hps hcl b3 ((hl.mono z.inc).lay _ _) (by omega) hpl (sM.lay _ _) (by omega) e4 _ (fun h' x => ?_)
  rw [e1, decide_eq_true rfl]
  (( skip); replace z := z.overW x (by (try simp only [lsz]); omega); (try replace qP := qP.over x); (try replace sM := sM.over x); (try replace sk := sk.over x); (try replace sh := sh.over x); rw [zab h'])
  have hws : IntKind.i64.wrap ((l.length : Int) + ((more.filter (fun s => !zaR d who s)).length : Int)) = (M.length : Int) := by rw [zae (by omega) (by omega)]; omega
  have hlh := fun (hh : Heap) => sh.lenA ds69 hh
  have hlM := fun (hh : Heap) => sM.lenA ds69 hh
  have hlk := fun (hh : Heap) => sk.lenA ds69 hh
  simp -implicitDefEqProofs only [syms, symx, seval, c8, Bool.not_true, qP.lay, hva, hvl, hvM, hvk, hvh, zav, ↓zaU, zaS, zaE, hlM, hll, hlh, hws]
  (with_reducible_and_instances apply zan); (· rfl)
  simp -implicitDefEqProofs only [syms, symx, seval, c8, Bool.not_true, qP.lay, hva, hvl, hvM, hvk, hvh, zav, ↓zaU, zaS, zaE, hlM, hll, hlh, hws]
  refine zmV (fun hne => absurd rfl hne) (fun _ => ?_)
  simp -implicitDefEqProofs only [syms, symx, seval, c8, qP.lay, hva, hvl, hvM, hvk, hvh, zav, ↓zaU, zaS, zaE]
  refine zc9 d who M _ _ _ _ _ _ _ _ _ ((hsp.ext z).lay _ _) hone ((hd.mono z.inc).lay _ _).k hps hcl b3 (sM.lay _ _) (by omega) e4 _ (fun h' w2 x s2 => ?_)
  rw [e1] at s2
  (( skip); replace z := z.overW x (by (try simp only [lsz]); omega); (try replace qP := qP.over x); (try replace sM := sM.over x); (try replace sk := sk.over x); (try replace sh := sh.over x); rw [zab h'])
  simp -implicitDefEqProofs only [syms, symx, seval, c8, hvk]
  refine zhd _ _ _ _ _ (s2.lay _ _) (sk.lay _ _) (by omega) (by omega) _ (fun h' x => ?_)
  rw [decide_eq_true rfl]
  clear s2
  (( skip); replace z := z.overW x (by (try simp only [lsz]); omega); (try replace qP := qP.over x); (try replace sM := sM.over x); (try replace sk := sk.over x); (try replace sh := sh.over x); rw [zab h'])
  simp -implicitDefEqProofs only [syms, symx, seval, c8, Bool.not_true, qP.lay, hva, hvl, hvM, hvk, hvh, zav, ↓zaU, zaS, zaE]
  (with_reducible_and_instances apply zan); (· rfl)
  simp -implicitDefEqProofs only [syms, symx, seval, c8, Bool.not_true, qP.lay, hva, hvl, hvM, hvk, hvh, zav, ↓zaU, zaS, zaE]
  refine zc9 d who (l.filter (zaR d who)) _ _ _ _ _ _ _ _ _ ((hsp.ext z).lay _ _) hone ((hd.mono z.inc).lay _ _).k hps hcl b3 (sk.lay _ _) (by omega) hkp _ (fun h' w3 x s3 => ?_)
  rw [zn4] at s3
  (( skip); replace z := z.overW x (by (try simp only [lsz]); omega); (try replace qP := qP.over x); (try replace sM := sM.over x); (try replace sk := sk.over x); (try replace sh := sh.over x); rw [zab h'])
  simp -implicitDefEqProofs only [syms, symx, seval, c8, hvk]
  refine zhd _ _ _ _ _ (s3.lay _ _) (sk.lay _ _) (by omega) (by omega) _ (fun h' x => ?_)
  rw [decide_eq_true rfl]
  clear s3
  (( skip); replace z := z.overW x (by (try simp only [lsz]); omega); (try replace qP := qP.over x); (try replace sM := sM.over x); (try replace sk := sk.over x); (try replace sh := sh.over x); rw [zab h'])
  simp -implicitDefEqProofs only [syms, symx, seval, c8, Bool.not_true, qP.lay, hva, hvl, hvM, hvk, hvh, zav, ↓zaU, zaS, zaE]
  (with_reducible_and_instances apply zan); (· rfl)
  simp -implicitDefEqProofs only [syms, symx, seval, c8, Bool.not_true, qP.lay, hva, hvl, hvM, hvk, hvh, zav, ↓zaU, zaS, zaE]
  refine zeU d who (l.filter (zaR d who)) _ _ _ _ _ _ _ _ _ ((hsp.ext z).lay _ _) hone ((hd.mono z.inc).lay _ _).k hps hcl b3 (sk.lay _ _) (by omega) hkp _ (fun h' w4 x s4 => ?_)
  rw [zop] at s4
  have hl4 := fun (hh : Heap) => s4.lenA ds69 hh
  have h40 : (([] : List SentD).length : Int) = 0 := rfl
  (( skip); replace z := z.overW x (by (try simp only [lsz]); omega); (try replace qP := qP.over x); (try replace sM := sM.over x); (try replace sk := sk.over x); (try replace sh := sh.over x); rw [zab h'])
  simp -implicitDefEqProofs only [syms, symx, seval, c8, hl4, h40]
  have hlk := fun (hh : Heap) => sk.lenA ds69 hh
  simp -implicitDefEqProofs only [syms, symx, seval, c8, qP.lay, hva, hvl, hvM, hvk, hvh, zav, ↓zaU, zaS, zaE, hlk]
  refine zeU d who l _ _ _ _ _ _ _ _ _ ((hsp.ext z).lay _ _) hone ((hd.mono z.inc).lay _ _).k hps hcl b3 ((hl.mono z.inc).lay _ _) (by omega) hpl _ (fun h' w5 x s5 => ?_)
  have hl5 := fun (hh : Heap) => s5.lenA ds69 hh
  have hfb := ziP (zaR d who) l
  have hw5 : IntKind.i64.wrap (((l.filter (zaR d who)).length : Int) + ((l.filter (fun s => !zaR d who s)).length : Int)) = (l.length : Int) := by rw [zae (by omega) (by omega)]; omega
  (( skip); replace z := z.overW x (by (try simp only [lsz]); omega); (try replace qP := qP.over x); (try replace sM := sM.over x); (try replace sk := sk.over x); (try replace sh := sh.over x); rw [zab h'])
  simp -implicitDefEqProofs only [syms, symx, seval, c8, hl5, hw5, hvl, hll]
  refine zmV (fun hne => absurd rfl hne) (fun _ => ?_)
  simp -implicitDefEqProofs only [syms, symx, seval, c8]
  clear s4 hl4 s5 hl5 sk sh hlk hlh hlM
  obtain ⟨I1, hI1⟩ : ∃ I : Nat → Env → Heap → Prop, I = (fun n e h' => ∃ (i : Nat) (a : Nat) (h1 : Heap), h' = h1.lay [] h1.low ∧ Ext h h1 ∧ (n = M.length - i ∧ i ≤ M.length ∧ a ≤ l.length ∧ (l.drop a).Sublist (M.drop i) ∧ Sl Rep.sent h1 wM M) ∧ ∃ J : Nat → Value, e = (jr J 0 2 (lv :: jr J 3 8 (wM :: jr J 12 2 (.int .i64 a :: .int .i64 i :: jr J 16 111 ([])))))) := ⟨_, rfl⟩
  refine zaI I1 _ (by rw [hI1]; exact ⟨0, 0, _, rfl, z, ⟨rfl, by omega, by omega, e3, sM⟩, junk (by kernel_rfl)⟩) ?_
  intro n e h' hin
  rw [hI1] at hin
  obtain ⟨i, a, h1', rfl, z, hinv, J, rfl⟩ := hin
  clear sM qP
  obtain ⟨rfl, hi, ha, hsub, sM⟩ := hinv
  have hlM := fun (hh : Heap) => sM.lenA ds69 hh
  have hwi : IntKind.i64.wrap ((i : Int) + 1) = ((i + 1 : Nat) : Int) := by rw [zae (by omega) (by omega)]; omega
  have hwa : IntKind.i64.wrap ((a : Int) + 1) = ((a + 1 : Nat) : Int) := by rw [zae (by omega) (by omega)]; omega
  simp -implicitDefEqProofs only [syms, symx, seval, c8, hvM, hlM]
  refine zay (fun hlt => ?_) (fun hlt => ?_)
  · simp -implicitDefEqProofs only [syms, symx, seval, c8, hvl, hll]
    refine zay (fun hal => ?_) (fun hal => ?_)
    · obtain ⟨r, hr, hr'⟩ := zbP (l := M) (i := i) (by omega)
      obtain ⟨y, hy, hy'⟩ := zbP (l := l) (i := a) (by omega)
      simp -implicitDefEqProofs only [syms, symx, seval, c8]
      with_reducible first | refine zdQ (by simp only [c8]) (z.upW _ _ (by omega)) ?_
      simp -implicitDefEqProofs only [syms, symx, seval, c8, hvM, hvl]
      repeat' ((first | ((with_reducible  apply zay ) <;> intro _) | with_reducible_and_instances refine ze2 sM ds69 sz62 (by omega) hr (fun p hp => ?_) | with_reducible_and_instances refine ze2 (hl.mono z.inc) ds69 sz62 (by omega) hy (fun p hp => ?_) | with_reducible_and_instances refine ldS hp ag62 sz62 ?_ | ((with_reducible refine ⟨z.grw.lay _ _, ?_⟩); (intro _ h' zz x _); (try simp only [zau, List.append_nil] at x); (try replace sM := sM.over x); (replace z := zz); (clear zz); rw [zab h'])) <;> simp -implicitDefEqProofs only [syms, symx, seval, c8, hvM, hvl, zug])
      · have he : r = y := by assumption
        rw [hwi, hwa]
        (rw [hI1]; with_reducible refine zaf (m := _) ?_ ⟨i + 1, a + 1, _, rfl, z, ⟨rfl, by omega, by omega, zqa hsub hr' hy' he, sM⟩, junk (by kernel_rfl)⟩; omega)
      · have he : ¬ r = y := by assumption
        rw [hwi]
        (rw [hI1]; with_reducible refine zaf (m := _) ?_ ⟨i + 1, a, _, rfl, z, ⟨rfl, by omega, ha, znH hsub hr' hy' he, sM⟩, junk (by kernel_rfl)⟩; omega)
    · have hae : a = l.length := by omega
      subst hae
      simp -implicitDefEqProofs only [syms, symx, seval, c8, hvl, hll, beq_self_eq_true]
      exact hk _ (z.upW _ _ (by omega))
  · have hie : i = M.length := by omega
    rw [hie, List.drop_length] at hsub
    have hae : a = l.length := by
      have := List.drop_eq_nil_iff.1 (List.eq_nil_of_sublist_nil hsub)
      omega
    subst hae
    simp -implicitDefEqProofs only [syms, symx, seval, c8, hvl, hll, beq_self_eq_true]
    exact hk _ (z.upW _ _ (by omega))
end Go.Proofs.YtemapihoobmonaaGreatDoor
