/- Walks: a list cloned; equal neighbours left out Written out by fill2.py. No condition. -/
import Derived.Test.YtompindebndddaaZE4
import Derived.Test.YtompindebndddaaG33
namespace Go.Proofs.Ytompindebndddaa
open Go.Am
set_option linter.unusedSimpArgs false
set_option linter.unusedVariables false
set_option maxRecDepth 100000
set_option maxHeartbeats 0
theorem nil_atom {h : Heap} {v : Value} {l : List AtomD} (f : Sl Rep.atom h v l) : ∃ b : Bool, binA Try.prog tab .eql 23 v (.slice none 0 0) = some (.bool b) ∧ (b = true → l = []) := by
  rcases f with ⟨rfl, rfl⟩ | ⟨A, o, c, row, u, ro, rfl, _⟩
  · exact ⟨true, by kernel_rfl, fun _ => rfl⟩
  · exact ⟨false, by kernel_rfl, nofun⟩
theorem ok_cloneA (l : List AtomD) (v : Value) (h : Heap) (hl : Sl Rep.atom h v l) (hs : l.length ≤ 1000) (K : Value → Heap → Prop)
    (hk : ∀ h' w, Ext h h' → OwnX h h' 39 w l → K w h') : Ok Try.prog tab ov 89 [v] h K := by
  rw [lay_nil h]
  obtain ⟨b, hb, hnil⟩ := nil_atom hl
  refine Ok.into rfl tab_fn89 body89 rfl (m := 7) rfl ?_
  simp -implicitDefEqProofs only [syms, symx, Nat.reduceAdd, Nat.reduceMul, Int.reduceLT, Int.reduceLE, Int.reduceAdd, Int.reduceSub, Int.reduceToNat, Int.reduceNeg, reduceIte, Nat.reduceGT, Nat.reduceLT, Nat.reduceLeDiff, code89_0, ty89, hb]
  cases b
  · simp -implicitDefEqProofs only [syms, symx, Nat.reduceAdd, Nat.reduceMul, Int.reduceLT, Int.reduceLE, Int.reduceAdd, Int.reduceSub, Int.reduceToNat, Int.reduceNeg, reduceIte, Nat.reduceGT, Nat.reduceLT, Nat.reduceLeDiff, code89_0, ty89, w_append, sty23]
    obtain ⟨news, hs, hsr⟩ := src_sl (A := h.size + 1) (r := Rep.atom) (by decide) (hl.lay [.row [] 39 false] h.low) (fun cs y hr => hr)
    have f : Ow Rep.atom h (h.lay [.row [] 39 false] h.low) 39 (h.size + 1) (.slice (some ⟨h.size + 0, 0, none⟩) 0 0) [] :=
      .inl ⟨by omega, rfl, .inr ⟨h.size + 0, 0, rfl, by omega, by rw [lay_size]; simp, [], 39, false, by rw [lay_get]; rfl⟩⟩
    obtain ⟨w, h', A', e1, e2, e3, e4, e5⟩ := app_ow (t := 23) ds23 tab_info39 rfl (by decide) (by rw [lay_size]; omega) f hs hsr (by simp only [List.length_nil]; omega) (by simp only [List.length_nil]; omega)
    rw [e1]
    simp -implicitDefEqProofs only [syms, symx, Nat.reduceAdd, Nat.reduceMul, Int.reduceLT, Int.reduceLE, Int.reduceAdd, Int.reduceSub, Int.reduceToNat, Int.reduceNeg, reduceIte, Nat.reduceGT, Nat.reduceLT, Nat.reduceLeDiff, code89_0, ty89]
    exact hk _ _ ((Ext.refl h).stepW e3 (by omega) (by omega)) (own_of_ow (by simpa using e2))
  · simp -implicitDefEqProofs only [syms, symx, Nat.reduceAdd, Nat.reduceMul, Int.reduceLT, Int.reduceLE, Int.reduceAdd, Int.reduceSub, Int.reduceToNat, Int.reduceNeg, reduceIte, Nat.reduceGT, Nat.reduceLT, Nat.reduceLeDiff, code89_0, ty89]
    rw [hnil rfl] at hk
    exact hk _ _ ((Ext.refl h).upW _ _ (by omega)) (.inl ⟨rfl, Emp.nil⟩)
theorem ok_same (a b : AtomD) (ha : a.light = true) (hb : b.light = true) (h : Heap) (K : Value → Heap → Prop) (hk : ∀ h', Ext h h' → K (.bool (cmpD a b == 0)) h') : Ok Try.prog tab ov 92 [a.val, b.val] h K := by
  rw [lay_nil h]
  have z := Ext.refl h
  refine Ok.into rfl tab_fn92 body92 rfl (m := 7) rfl ?_
  simp -implicitDefEqProofs only [syms, symx, Nat.reduceAdd, Nat.reduceMul, Int.reduceLT, Int.reduceLE, Int.reduceAdd, Int.reduceSub, Int.reduceToNat, Int.reduceNeg, reduceIte, Nat.reduceGT, Nat.reduceLT, Nat.reduceLeDiff, code92_0, ty92, cells_atom, ↓cut_atom, agg_atom, valE_atom]
  repeat' ((first
    | ((with_reducible first | apply forkD | apply forkB | apply forkN | apply forkNP | apply forkNot) <;> intro _)
    | ((with_reducible_and_instances apply unop_not); (· rfl))) <;> simp -implicitDefEqProofs only [syms, symx, Nat.reduceAdd, Nat.reduceMul, Int.reduceLT, Int.reduceLE, Int.reduceAdd, Int.reduceSub, Int.reduceToNat, Int.reduceNeg, reduceIte, Nat.reduceGT, Nat.reduceLT, Nat.reduceLeDiff, code92_0, ty92, cells_atom, ↓cut_atom, agg_atom, valE_atom])
  refine ok_cmp a b ha hb _ _ (fun h' x => ?_)
  ((skip); replace z := z.overW x (by (try simp only [lay_size, List.length_cons, List.length_nil]); omega); rw [lay_nil h'])
  simp -implicitDefEqProofs only [syms, symx, Nat.reduceAdd, Nat.reduceMul, Int.reduceLT, Int.reduceLE, Int.reduceAdd, Int.reduceSub, Int.reduceToNat, Int.reduceNeg, reduceIte, Nat.reduceGT, Nat.reduceLT, Nat.reduceLeDiff, code92_0, ty92]
  refine forkB (fun hc => ?_) (fun hc => ?_)
  · simp -implicitDefEqProofs only [syms, symx, Nat.reduceAdd, Nat.reduceMul, Int.reduceLT, Int.reduceLE, Int.reduceAdd, Int.reduceSub, Int.reduceToNat, Int.reduceNeg, reduceIte, Nat.reduceGT, Nat.reduceLT, Nat.reduceLeDiff, code92_0, ty92]
    repeat' ((first
      | ((with_reducible first | apply forkD | apply forkB | apply forkN | apply forkNP | apply forkNot) <;> intro _)
      | ((with_reducible_and_instances apply unop_not); (· rfl))) <;> simp -implicitDefEqProofs only [syms, symx, Nat.reduceAdd, Nat.reduceMul, Int.reduceLT, Int.reduceLE, Int.reduceAdd, Int.reduceSub, Int.reduceToNat, Int.reduceNeg, reduceIte, Nat.reduceGT, Nat.reduceLT, Nat.reduceLeDiff, code92_0, ty92])
    rw [show (cmpD a b == 0) = true by rw [hc]; rfl] at hk
    exact hk _ (z.upW _ _ (by omega))
  · simp -implicitDefEqProofs only [syms, symx, Nat.reduceAdd, Nat.reduceMul, Int.reduceLT, Int.reduceLE, Int.reduceAdd, Int.reduceSub, Int.reduceToNat, Int.reduceNeg, reduceIte, Nat.reduceGT, Nat.reduceLT, Nat.reduceLeDiff, code92_0, ty92]
    repeat' ((first
      | ((with_reducible first | apply forkD | apply forkB | apply forkN | apply forkNP | apply forkNot) <;> intro _)
      | ((with_reducible_and_instances apply unop_not); (· rfl))) <;> simp -implicitDefEqProofs only [syms, symx, Nat.reduceAdd, Nat.reduceMul, Int.reduceLT, Int.reduceLE, Int.reduceAdd, Int.reduceSub, Int.reduceToNat, Int.reduceNeg, reduceIte, Nat.reduceGT, Nat.reduceLT, Nat.reduceLeDiff, code92_0, ty92])
    rw [show (cmpD a b == 0) = false by simpa using hc] at hk
    exact hk _ (z.upW _ _ (by omega))
theorem ok_compact (l : List AtomD) (A : Nat) (h hs : Heap) (z : Ext h hs) (hA : h.size ≤ A) (q : Holds hs A (.row (rowA l) 39 false)) (hn : l.length ≤ 1000) (hlt : ∀ x ∈ l, x.light = true) (K : Value → Heap → Prop)
    (hk : ∀ h' v, Ext h h' → OwnA h h' 39 v (uniqN l l.length) → K v h') : Ok Try.prog tab ov 91 [.slice (some ⟨A, 0, none⟩) l.length (G * 11 + l.length), .func (.func 92) ⟨[]⟩ ⟨[]⟩] hs K := by
  rw [lay_nil hs]
  have hbig : ∀ (x : Value) (hh : Heap) (K2 : Value → Heap → Prop), valE (some (.slice (some ⟨A, 0, none⟩) l.length (G * 11 + l.length))) hh K2 = K2 (.slice (some ⟨A, 0, none⟩) l.length (G * 11 + l.length)) hh := fun _ _ _ => rfl
  obtain ⟨C, hC⟩ : ∃ C, C = G * 11 + l.length := ⟨_, rfl⟩
  rw [← hC]
  refine Ok.into rfl tab_fn91 body91 rfl (m := 64) rfl ?_
  simp -implicitDefEqProofs only [syms, symx, Nat.reduceAdd, Nat.reduceMul, Int.reduceLT, Int.reduceLE, Int.reduceAdd, Int.reduceSub, Int.reduceToNat, Int.reduceNeg, reduceIte, Nat.reduceGT, Nat.reduceLT, Nat.reduceLeDiff, code91_0, code91_1, code91_2, code91_3, ty91]
  repeat' ((first
    | ((with_reducible first | apply forkD | apply forkB | apply forkN | apply forkNP | apply forkNot) <;> intro _)
    | ((with_reducible_and_instances apply unop_not); (· rfl))
    | ((with_reducible refine ⟨z.grw.lay _ _, ?_⟩); (intro _ h' zz x _); (try simp only [lay_lay, List.append_nil] at x); (replace z := zz); (clear zz); rw [lay_nil h'])) <;> simp -implicitDefEqProofs only [syms, symx, Nat.reduceAdd, Nat.reduceMul, Int.reduceLT, Int.reduceLE, Int.reduceAdd, Int.reduceSub, Int.reduceToNat, Int.reduceNeg, reduceIte, Nat.reduceGT, Nat.reduceLT, Nat.reduceLeDiff, code91_0, code91_1, code91_2, code91_3, ty91])
  · have e := uniqN_small (l := l) (by omega)
    rw [e] at hk
    exact hk _ _ (z.upW _ _ (by omega)) (own_same (q.on _ _) hA (by omega) hC)
  have hu1 : uniqN l 1 = l.take 1 := by
    rw [take_snoc (m := 0) (by omega)]
    rfl
  obtain ⟨I1, hI1⟩ : ∃ I : Nat → Env → Heap → Prop, I = (fun n e h' => ∃ (k : Nat) (h1 : Heap), h' = h1.lay [] h1.low ∧ Ext h h1 ∧ (n = l.length - k ∧ 1 ≤ k ∧ k ≤ l.length ∧ uniqN l k = l.take k ∧ Holds h1 A (.row (rowA l) 39 false)) ∧ ∃ J : Nat → Value, e = (.slice (some ⟨A, 0, none⟩) l.length C :: .func (.func 92) ⟨[]⟩ ⟨[]⟩ :: J 2 :: J 3 :: J 4 :: .int .i64 k :: J 6 :: J 7 :: J 8 :: J 9 :: J 10 :: J 11 :: J 12 :: J 13 :: J 14 :: J 15 :: J 16 :: J 17 :: J 18 :: J 19 :: J 20 :: J 21 :: J 22 :: J 23 :: J 24 :: J 25 :: J 26 :: J 27 :: J 28 :: J 29 :: J 30 :: J 31 :: J 32 :: J 33 :: J 34 :: J 35 :: J 36 :: J 37 :: J 38 :: J 39 :: J 40 :: J 41 :: J 42 :: J 43 :: J 44 :: J 45 :: J 46 :: J 47 :: J 48 :: J 49 :: J 50 :: J 51 :: J 52 :: J 53 :: J 54 :: J 55 :: J 56 :: J 57 :: J 58 :: J 59 :: J 60 :: J 61 :: J 62 :: J 63 :: J 64 :: J 65 :: [])) := ⟨_, rfl⟩
  refine W_loopN I1 _ (by rw [hI1]; exact ⟨1, _, rfl, z, ⟨rfl, by omega, by omega, hu1, q⟩, junk (by kernel_rfl)⟩) ?_
  intro n e h' hin
  rw [hI1] at hin
  obtain ⟨k, h1', rfl, z, hinv, J, rfl⟩ := hin
  clear q
  obtain ⟨rfl, hk1, hkn, hu, q⟩ := hinv
  have hwk : IntKind.i64.wrap ((k : Int) + 1) = ((k + 1 : Nat) : Int) := by rw [wrap_i64 (by omega) (by omega)]; omega
  have hwk1 : IntKind.i64.wrap ((k : Int) - 1) = ((k - 1 : Nat) : Int) := by rw [wrap_i64 (by omega) (by omega)]; omega
  simp -implicitDefEqProofs only [syms, symx, Nat.reduceAdd, Nat.reduceMul, Int.reduceLT, Int.reduceLE, Int.reduceAdd, Int.reduceSub, Int.reduceToNat, Int.reduceNeg, reduceIte, Nat.reduceGT, Nat.reduceLT, Nat.reduceLeDiff, code91_0, code91_1, code91_2, code91_3, ty91]
  refine forkD (fun hlt1 => ?_) (fun hlt1 => ?_)
  rotate_left
  · simp -implicitDefEqProofs only [syms, symx, Nat.reduceAdd, Nat.reduceMul, Int.reduceLT, Int.reduceLE, Int.reduceAdd, Int.reduceSub, Int.reduceToNat, Int.reduceNeg, reduceIte, Nat.reduceGT, Nat.reduceLT, Nat.reduceLeDiff, code91_0, code91_1, code91_2, code91_3, ty91]
    repeat' ((first
      | ((with_reducible first | apply forkD | apply forkB | apply forkN | apply forkNP | apply forkNot) <;> intro _)
      | ((with_reducible_and_instances apply unop_not); (· rfl))
      | ((with_reducible refine ⟨z.grw.lay _ _, ?_⟩); (intro _ h' zz x _); (try simp only [lay_lay, List.append_nil] at x); (replace z := zz); (clear zz); rw [lay_nil h'])) <;> simp -implicitDefEqProofs only [syms, symx, Nat.reduceAdd, Nat.reduceMul, Int.reduceLT, Int.reduceLE, Int.reduceAdd, Int.reduceSub, Int.reduceToNat, Int.reduceNeg, reduceIte, Nat.reduceGT, Nat.reduceLT, Nat.reduceLeDiff, code91_0, code91_1, code91_2, code91_3, ty91])
    have hkl : k = l.length := by omega
    subst hkl
    rw [hu, List.take_length] at hk
    exact hk _ _ (z.upW _ _ (by omega)) (own_same (q.on _ _) hA (by omega) hC)
  have hin : (0 : Int) ≤ (k : Int) ∧ (k : Int) < (l.length : Int) := by omega
  have hin1 : (0 : Int) ≤ ((k - 1 : Nat) : Int) ∧ ((k - 1 : Nat) : Int) < (l.length : Int) := by omega
  have hld := fun (bs : List Blk) (w : Nat) => load_atom (bs := bs) (w := w) q (getD_at (l := l) (i := k) (by omega))
  have hld1 := fun (bs : List Blk) (w : Nat) => load_atom (bs := bs) (w := w) q (getD_at (l := l) (i := k - 1) (by omega))
  simp -implicitDefEqProofs only [syms, symx, Nat.reduceAdd, Nat.reduceMul, Int.reduceLT, Int.reduceLE, Int.reduceAdd, Int.reduceSub, Int.reduceToNat, Int.reduceNeg, reduceIte, Nat.reduceGT, Nat.reduceLT, Nat.reduceLeDiff, code91_0, code91_1, code91_2, code91_3, ty91]
  refine D91_24 (z.upW _ _ (by omega)) ?_
  simp -implicitDefEqProofs only [syms, symx, Nat.reduceAdd, Nat.reduceMul, Int.reduceLT, Int.reduceLE, Int.reduceAdd, Int.reduceSub, Int.reduceToNat, Int.reduceNeg, reduceIte, Nat.reduceGT, Nat.reduceLT, Nat.reduceLeDiff, code91_0, code91_1, code91_2, code91_3, ty91, hwk1, hin, hin1, and_self, if_true, ↓hld, ↓hld1, valE_atom]
  repeat' ((first
    | ((with_reducible first | apply forkD | apply forkB | apply forkN | apply forkNP | apply forkNot) <;> intro _)
    | ((with_reducible_and_instances apply unop_not); (· rfl))
    | ((with_reducible refine ⟨z.grw.lay _ _, ?_⟩); (intro _ h' zz x _); (try simp only [lay_lay, List.append_nil] at x); (try replace q := q.over x); (replace z := zz); (clear zz); rw [lay_nil h'])) <;> simp -implicitDefEqProofs only [syms, symx, Nat.reduceAdd, Nat.reduceMul, Int.reduceLT, Int.reduceLE, Int.reduceAdd, Int.reduceSub, Int.reduceToNat, Int.reduceNeg, reduceIte, Nat.reduceGT, Nat.reduceLT, Nat.reduceLeDiff, code91_0, code91_1, code91_2, code91_3, ty91, hwk1, hin, hin1, and_self, if_true, ↓hld, ↓hld1, valE_atom])
  refine ok_same _ _ (light_getD hlt (by omega)) (light_getD hlt (by omega)) _ _ (fun h' x => ?_)
  ((first | ((with_reducible refine KOpsX_call ?_ ?_ ?_); (· exact (by (try simp only [lay_size, List.length_cons, List.length_nil]); have := z.size; omega)); (· first | exact x | simpa only [lay_lay, lay_size, List.append_nil, List.length_cons, List.length_nil, Nat.add_zero] using x)) | skip); replace z := z.overW x (by (try simp only [lay_size, List.length_cons, List.length_nil]); omega); (try replace q := q.over x); rw [lay_nil h'])
  cases hc : (cmpD (l.getD k noAtomD) (l.getD (k - 1) noAtomD) == 0)
  · simp -implicitDefEqProofs only [syms, symx, Nat.reduceAdd, Nat.reduceMul, Int.reduceLT, Int.reduceLE, Int.reduceAdd, Int.reduceSub, Int.reduceToNat, Int.reduceNeg, reduceIte, Nat.reduceGT, Nat.reduceLT, Nat.reduceLeDiff, code91_0, code91_1, code91_2, code91_3, ty91]
    repeat' ((first
      | ((with_reducible first | apply forkD | apply forkB | apply forkN | apply forkNP | apply forkNot) <;> intro _)
      | ((with_reducible_and_instances apply unop_not); (· rfl))
      | ((with_reducible refine ⟨z.grw.lay _ _, ?_⟩); (intro _ h' zz x _); (try simp only [lay_lay, List.append_nil] at x); (try replace q := q.over x); (replace z := zz); (clear zz); rw [lay_nil h'])) <;> simp -implicitDefEqProofs only [syms, symx, Nat.reduceAdd, Nat.reduceMul, Int.reduceLT, Int.reduceLE, Int.reduceAdd, Int.reduceSub, Int.reduceToNat, Int.reduceNeg, reduceIte, Nat.reduceGT, Nat.reduceLT, Nat.reduceLeDiff, code91_0, code91_1, code91_2, code91_3, ty91])
    rw [hwk]
    (rw [hI1]; with_reducible refine loopN_normal (m := _) ?_ ⟨k + 1, _, rfl, z, ⟨rfl, by omega, by omega, uniqN_keep (by omega) (by omega) hu (by simpa using hc), q⟩, junk (by kernel_rfl)⟩; omega)
  have hc : cmpD (l.getD k noAtomD) (l.getD (k - 1) noAtomD) = 0 := by simpa using hc
  simp -implicitDefEqProofs only [syms, symx, Nat.reduceAdd, Nat.reduceMul, Int.reduceLT, Int.reduceLE, Int.reduceAdd, Int.reduceSub, Int.reduceToNat, Int.reduceNeg, reduceIte, Nat.reduceGT, Nat.reduceLT, Nat.reduceLeDiff, code91_0, code91_1, code91_2, code91_3, ty91]
  repeat' ((first
    | ((with_reducible first | apply forkD | apply forkB | apply forkN | apply forkNP | apply forkNot) <;> intro _)
    | ((with_reducible_and_instances apply unop_not); (· rfl))
    | ((with_reducible refine ⟨z.grw.lay _ _, ?_⟩); (intro _ h' zz x _); (try simp only [lay_lay, List.append_nil] at x); (try replace q := q.over x); (replace z := zz); (clear zz); rw [lay_nil h'])) <;> simp -implicitDefEqProofs only [syms, symx, Nat.reduceAdd, Nat.reduceMul, Int.reduceLT, Int.reduceLE, Int.reduceAdd, Int.reduceSub, Int.reduceToNat, Int.reduceNeg, reduceIte, Nat.reduceGT, Nat.reduceLT, Nat.reduceLeDiff, code91_0, code91_1, code91_2, code91_3, ty91])
  rw [hC, open_from ds23 sz39 (by omega) (Nat.le_refl _) (by omega), ← hC]
  simp -implicitDefEqProofs only [syms, symx, Nat.reduceAdd, Nat.reduceMul, Int.reduceLT, Int.reduceLE, Int.reduceAdd, Int.reduceSub, Int.reduceToNat, Int.reduceNeg, reduceIte, Nat.reduceGT, Nat.reduceLT, Nat.reduceLeDiff, code91_0, code91_1, code91_2, code91_3, ty91]
  repeat' ((first
    | ((with_reducible first | apply forkD | apply forkB | apply forkN | apply forkNP | apply forkNot) <;> intro _)
    | ((with_reducible_and_instances apply unop_not); (· rfl))
    | ((with_reducible refine ⟨z.grw.lay _ _, ?_⟩); (intro _ h' zz x _); (try simp only [lay_lay, List.append_nil] at x); (try replace q := q.over x); (replace z := zz); (clear zz); rw [lay_nil h'])) <;> simp -implicitDefEqProofs only [syms, symx, Nat.reduceAdd, Nat.reduceMul, Int.reduceLT, Int.reduceLE, Int.reduceAdd, Int.reduceSub, Int.reduceToNat, Int.reduceNeg, reduceIte, Nat.reduceGT, Nat.reduceLT, Nat.reduceLeDiff, code91_0, code91_1, code91_2, code91_3, ty91])
  obtain ⟨C2, hC2⟩ : ∃ C2, C2 = G * 11 + (l.length - k) := ⟨_, rfl⟩
  rw [← hC2]
  obtain ⟨I2, hI2⟩ : ∃ I : Nat → Env → Heap → Prop, I = (fun n e h' => ∃ (b i : Nat) (cur : List AtomD) (h1 : Heap), h' = h1.lay [] h1.low ∧ Ext h h1 ∧ (n = l.length - (k + b) ∧ 1 ≤ b ∧ k + b ≤ l.length ∧ cur.length = l.length ∧ i + 1 ≤ k + b ∧ cur.take i = uniqN l (k + b) ∧ (∀ p, k + b ≤ p + 1 → cur.getD p noAtomD = l.getD p noAtomD) ∧ Holds h1 A (.row (rowA cur) 39 false)) ∧ ∃ J : Nat → Value, e = (.slice (some ⟨A, 0, none⟩) l.length C :: .func (.func 92) ⟨[]⟩ ⟨[]⟩ :: J 2 :: J 3 :: J 4 :: .int .i64 i :: .slice (some ⟨A, k * 11, none⟩) (l.length - k) C2 :: .int .i64 b :: J 8 :: J 9 :: J 10 :: J 11 :: J 12 :: J 13 :: J 14 :: J 15 :: J 16 :: J 17 :: J 18 :: J 19 :: J 20 :: J 21 :: J 22 :: J 23 :: J 24 :: J 25 :: J 26 :: J 27 :: J 28 :: J 29 :: J 30 :: J 31 :: J 32 :: J 33 :: J 34 :: J 35 :: J 36 :: J 37 :: J 38 :: J 39 :: J 40 :: J 41 :: J 42 :: J 43 :: J 44 :: J 45 :: J 46 :: J 47 :: J 48 :: J 49 :: J 50 :: J 51 :: J 52 :: J 53 :: J 54 :: J 55 :: J 56 :: J 57 :: J 58 :: J 59 :: J 60 :: J 61 :: J 62 :: J 63 :: J 64 :: J 65 :: [])) := ⟨_, rfl⟩
  refine W_loopN I2 _ (by rw [hI2]; exact ⟨1, k, l, _, rfl, z, ⟨rfl, by omega, by omega, rfl, by omega, by rw [uniqN_no (by omega) hc]; exact hu.symm, fun _ _ => rfl, q⟩, junk (by kernel_rfl)⟩) ?_
  intro n e h' hin
  rw [hI2] at hin
  obtain ⟨b, i, cur, h2', rfl, z, hinv, J, rfl⟩ := hin
  clear q
  obtain ⟨rfl, hb1, hbn, hcl, hik, hcu, hce, q⟩ := hinv
  have hwb : IntKind.i64.wrap ((b : Int) + 1) = ((b + 1 : Nat) : Int) := by rw [wrap_i64 (by omega) (by omega)]; omega
  have hwb1 : IntKind.i64.wrap ((b : Int) - 1) = ((b - 1 : Nat) : Int) := by rw [wrap_i64 (by omega) (by omega)]; omega
  have hwi : IntKind.i64.wrap ((i : Int) + 1) = ((i + 1 : Nat) : Int) := by rw [wrap_i64 (by omega) (by omega)]; omega
  simp -implicitDefEqProofs only [syms, symx, Nat.reduceAdd, Nat.reduceMul, Int.reduceLT, Int.reduceLE, Int.reduceAdd, Int.reduceSub, Int.reduceToNat, Int.reduceNeg, reduceIte, Nat.reduceGT, Nat.reduceLT, Nat.reduceLeDiff, code91_0, code91_1, code91_2, code91_3, ty91]
  refine forkD (fun hlt2 => ?_) (fun hlt2 => ?_)
  rotate_left
  · have hkb : k + b = l.length := by omega
    have hil : i ≤ l.length := by omega
    simp -implicitDefEqProofs only [syms, symx, Nat.reduceAdd, Nat.reduceMul, Int.reduceLT, Int.reduceLE, Int.reduceAdd, Int.reduceSub, Int.reduceToNat, Int.reduceNeg, reduceIte, Nat.reduceGT, Nat.reduceLT, Nat.reduceLeDiff, code91_0, code91_1, code91_2, code91_3, ty91]
    rw [hC, open_from ds23 sz39 hil (Nat.le_refl _) (by omega), ← hC]
    obtain ⟨C3, hC3⟩ : ∃ C3, C3 = G * 11 + (l.length - i) := ⟨_, rfl⟩
    rw [← hC3]
    simp -implicitDefEqProofs only [syms, symx, Nat.reduceAdd, Nat.reduceMul, Int.reduceLT, Int.reduceLE, Int.reduceAdd, Int.reduceSub, Int.reduceToNat, Int.reduceNeg, reduceIte, Nat.reduceGT, Nat.reduceLT, Nat.reduceLeDiff, code91_0, code91_1, code91_2, code91_3, ty91, w_clear]
    refine clear_rule q ds23 tab_info39 (by omega) (by omega) (fun h3 q3 c3 => ?_)
    replace z := z.stepW c3 hA (by omega)
    rw [lay_nil h3]
    clear q
    simp -implicitDefEqProofs only [syms, symx, Nat.reduceAdd, Nat.reduceMul, Int.reduceLT, Int.reduceLE, Int.reduceAdd, Int.reduceSub, Int.reduceToNat, Int.reduceNeg, reduceIte, Nat.reduceGT, Nat.reduceLT, Nat.reduceLeDiff, code91_0, code91_1, code91_2, code91_3, ty91]
    rw [hC, open_to ds23 sz39 hil (Nat.le_refl _) (by omega), ← hC]
    simp -implicitDefEqProofs only [syms, symx, Nat.reduceAdd, Nat.reduceMul, Int.reduceLT, Int.reduceLE, Int.reduceAdd, Int.reduceSub, Int.reduceToNat, Int.reduceNeg, reduceIte, Nat.reduceGT, Nat.reduceLT, Nat.reduceLeDiff, code91_0, code91_1, code91_2, code91_3, ty91]
    repeat' ((first
      | ((with_reducible first | apply forkD | apply forkB | apply forkN | apply forkNP | apply forkNot) <;> intro _)
      | ((with_reducible_and_instances apply unop_not); (· rfl))
      | ((with_reducible refine ⟨z.grw.lay _ _, ?_⟩); (intro _ h' zz x _); (try simp only [lay_lay, List.append_nil] at x); (try replace q := q.over x); (replace z := zz); (clear zz); rw [lay_nil h'])) <;> simp -implicitDefEqProofs only [syms, symx, Nat.reduceAdd, Nat.reduceMul, Int.reduceLT, Int.reduceLE, Int.reduceAdd, Int.reduceSub, Int.reduceToNat, Int.reduceNeg, reduceIte, Nat.reduceGT, Nat.reduceLT, Nat.reduceLeDiff, code91_0, code91_1, code91_2, code91_3, ty91])
    rw [hcu, hkb] at q3
    have hlen : i = (uniqN l l.length).length := by rw [← hkb, ← hcu, List.length_take]; omega
    have hlen2 : (uniqN l l.length ++ List.replicate (cur.length - i) noAtomD).length = l.length := by rw [List.length_append, List.length_replicate]; omega
    exact hk _ _ (z.upW _ _ (by omega)) (own_part (q3.on _ _) hA (by omega) hlen (by rw [hlen2]; exact hC))
  have hin : (0 : Int) ≤ (b : Int) ∧ (b : Int) < ((l.length - k : Nat) : Int) := by omega
  have hin1 : (0 : Int) ≤ ((b - 1 : Nat) : Int) ∧ ((b - 1 : Nat) : Int) < ((l.length - k : Nat) : Int) := by omega
  have hld := fun (bs : List Blk) (w : Nat) => load_atom (bs := bs) (w := w) q (getD_at (l := cur) (i := k + b) (by omega))
  have hld1 := fun (bs : List Blk) (w : Nat) => load_atom (bs := bs) (w := w) q (getD_at (l := cur) (i := k + (b - 1)) (by omega))
  rw [Nat.add_mul] at hld hld1
  rw [hce _ (by omega)] at hld hld1
  simp -implicitDefEqProofs only [syms, symx, Nat.reduceAdd, Nat.reduceMul, Int.reduceLT, Int.reduceLE, Int.reduceAdd, Int.reduceSub, Int.reduceToNat, Int.reduceNeg, reduceIte, Nat.reduceGT, Nat.reduceLT, Nat.reduceLeDiff, code91_0, code91_1, code91_2, code91_3, ty91]
  refine D91_42 (z.upW _ _ (by omega)) ?_
  simp -implicitDefEqProofs only [syms, symx, Nat.reduceAdd, Nat.reduceMul, Int.reduceLT, Int.reduceLE, Int.reduceAdd, Int.reduceSub, Int.reduceToNat, Int.reduceNeg, reduceIte, Nat.reduceGT, Nat.reduceLT, Nat.reduceLeDiff, code91_0, code91_1, code91_2, code91_3, ty91, hwb1, hin, hin1, and_self, if_true, ↓hld, ↓hld1, valE_atom]
  repeat' ((first
    | ((with_reducible first | apply forkD | apply forkB | apply forkN | apply forkNP | apply forkNot) <;> intro _)
    | ((with_reducible_and_instances apply unop_not); (· rfl))
    | ((with_reducible refine ⟨z.grw.lay _ _, ?_⟩); (intro _ h' zz x _); (try simp only [lay_lay, List.append_nil] at x); (try replace q := q.over x); (replace z := zz); (clear zz); rw [lay_nil h'])) <;> simp -implicitDefEqProofs only [syms, symx, Nat.reduceAdd, Nat.reduceMul, Int.reduceLT, Int.reduceLE, Int.reduceAdd, Int.reduceSub, Int.reduceToNat, Int.reduceNeg, reduceIte, Nat.reduceGT, Nat.reduceLT, Nat.reduceLeDiff, code91_0, code91_1, code91_2, code91_3, ty91, hwb1, hin, hin1, and_self, if_true, ↓hld, ↓hld1, valE_atom])
  refine ok_same _ _ (light_getD hlt (by omega)) (light_getD hlt (by omega)) _ _ (fun h' x => ?_)
  ((first | ((with_reducible refine KOpsX_call ?_ ?_ ?_); (· exact (by (try simp only [lay_size, List.length_cons, List.length_nil]); have := z.size; omega)); (· first | exact x | simpa only [lay_lay, lay_size, List.append_nil, List.length_cons, List.length_nil, Nat.add_zero] using x)) | skip); replace z := z.overW x (by (try simp only [lay_size, List.length_cons, List.length_nil]); omega); (try replace q := q.over x); rw [lay_nil h'])
  cases hc2 : (cmpD (l.getD (k + b) noAtomD) (l.getD (k + (b - 1)) noAtomD) == 0)
  rotate_left
  · have hc2 : cmpD (l.getD (k + b) noAtomD) (l.getD (k + b - 1) noAtomD) = 0 := by rw [show k + b - 1 = k + (b - 1) by omega]; simpa using hc2
    simp -implicitDefEqProofs only [syms, symx, Nat.reduceAdd, Nat.reduceMul, Int.reduceLT, Int.reduceLE, Int.reduceAdd, Int.reduceSub, Int.reduceToNat, Int.reduceNeg, reduceIte, Nat.reduceGT, Nat.reduceLT, Nat.reduceLeDiff, code91_0, code91_1, code91_2, code91_3, ty91]
    repeat' ((first
      | ((with_reducible first | apply forkD | apply forkB | apply forkN | apply forkNP | apply forkNot) <;> intro _)
      | ((with_reducible_and_instances apply unop_not); (· rfl))
      | ((with_reducible refine ⟨z.grw.lay _ _, ?_⟩); (intro _ h' zz x _); (try simp only [lay_lay, List.append_nil] at x); (try replace q := q.over x); (replace z := zz); (clear zz); rw [lay_nil h'])) <;> simp -implicitDefEqProofs only [syms, symx, Nat.reduceAdd, Nat.reduceMul, Int.reduceLT, Int.reduceLE, Int.reduceAdd, Int.reduceSub, Int.reduceToNat, Int.reduceNeg, reduceIte, Nat.reduceGT, Nat.reduceLT, Nat.reduceLeDiff, code91_0, code91_1, code91_2, code91_3, ty91])
    rw [hwb]
    (rw [hI2]; with_reducible refine loopN_normal (m := _) ?_ ⟨b + 1, i, cur, _, rfl, z, ⟨rfl, by omega, by omega, hcl, by omega, by rw [hcu, show k + (b + 1) = k + b + 1 by omega, uniqN_no (by omega) hc2], fun p hp => hce p (by omega), q⟩, junk (by kernel_rfl)⟩; omega)
  have hc2 : cmpD (l.getD (k + b) noAtomD) (l.getD (k + b - 1) noAtomD) ≠ 0 := by rw [show k + b - 1 = k + (b - 1) by omega]; simpa using hc2
  simp -implicitDefEqProofs only [syms, symx, Nat.reduceAdd, Nat.reduceMul, Int.reduceLT, Int.reduceLE, Int.reduceAdd, Int.reduceSub, Int.reduceToNat, Int.reduceNeg, reduceIte, Nat.reduceGT, Nat.reduceLT, Nat.reduceLeDiff, code91_0, code91_1, code91_2, code91_3, ty91]
  repeat' ((first
    | ((with_reducible first | apply forkD | apply forkB | apply forkN | apply forkNP | apply forkNot) <;> intro _)
    | ((with_reducible_and_instances apply unop_not); (· rfl))
    | ((with_reducible refine ⟨z.grw.lay _ _, ?_⟩); (intro _ h' zz x _); (try simp only [lay_lay, List.append_nil] at x); (try replace q := q.over x); (replace z := zz); (clear zz); rw [lay_nil h'])) <;> simp -implicitDefEqProofs only [syms, symx, Nat.reduceAdd, Nat.reduceMul, Int.reduceLT, Int.reduceLE, Int.reduceAdd, Int.reduceSub, Int.reduceToNat, Int.reduceNeg, reduceIte, Nat.reduceGT, Nat.reduceLT, Nat.reduceLeDiff, code91_0, code91_1, code91_2, code91_3, ty91])
  have hld := fun (bs : List Blk) (w : Nat) => load_atom (bs := bs) (w := w) q (getD_at (l := cur) (i := k + b) (by omega))
  rw [Nat.add_mul] at hld
  rw [hce _ (by omega)] at hld
  have hini : (0 : Int) ≤ (i : Int) ∧ (i : Int) < (l.length : Int) := by omega
  simp -implicitDefEqProofs only [syms, symx, Nat.reduceAdd, Nat.reduceMul, Int.reduceLT, Int.reduceLE, Int.reduceAdd, Int.reduceSub, Int.reduceToNat, Int.reduceNeg, reduceIte, Nat.reduceGT, Nat.reduceLT, Nat.reduceLeDiff, code91_0, code91_1, code91_2, code91_3, ty91, hin, hini, and_self, if_true, ↓hld, valE_atom]
  repeat' ((first
    | ((with_reducible first | apply forkD | apply forkB | apply forkN | apply forkNP | apply forkNot) <;> intro _)
    | ((with_reducible_and_instances apply unop_not); (· rfl))
    | ((with_reducible refine ⟨z.grw.lay _ _, ?_⟩); (intro _ h' zz x _); (try simp only [lay_lay, List.append_nil] at x); (try replace q := q.over x); (replace z := zz); (clear zz); rw [lay_nil h'])) <;> simp -implicitDefEqProofs only [syms, symx, Nat.reduceAdd, Nat.reduceMul, Int.reduceLT, Int.reduceLE, Int.reduceAdd, Int.reduceSub, Int.reduceToNat, Int.reduceNeg, reduceIte, Nat.reduceGT, Nat.reduceLT, Nat.reduceLeDiff, code91_0, code91_1, code91_2, code91_3, ty91, hin, hini, and_self, if_true, ↓hld, valE_atom])
  have hz := z.size
  refine store_atom q sz39 (by omega) (fun h3 q3 c3 => ?_)
  replace z := z.stepW c3 hA (by omega)
  rw [lay_nil h3]
  clear q hld
  simp -implicitDefEqProofs only [syms, symx, Nat.reduceAdd, Nat.reduceMul, Int.reduceLT, Int.reduceLE, Int.reduceAdd, Int.reduceSub, Int.reduceToNat, Int.reduceNeg, reduceIte, Nat.reduceGT, Nat.reduceLT, Nat.reduceLeDiff, code91_0, code91_1, code91_2, code91_3, ty91]
  repeat' ((first
    | ((with_reducible first | apply forkD | apply forkB | apply forkN | apply forkNP | apply forkNot) <;> intro _)
    | ((with_reducible_and_instances apply unop_not); (· rfl))
    | ((with_reducible refine ⟨z.grw.lay _ _, ?_⟩); (intro _ h' zz x _); (try simp only [lay_lay, List.append_nil] at x); (try replace q := q.over x); (replace z := zz); (clear zz); rw [lay_nil h'])) <;> simp -implicitDefEqProofs only [syms, symx, Nat.reduceAdd, Nat.reduceMul, Int.reduceLT, Int.reduceLE, Int.reduceAdd, Int.reduceSub, Int.reduceToNat, Int.reduceNeg, reduceIte, Nat.reduceGT, Nat.reduceLT, Nat.reduceLeDiff, code91_0, code91_1, code91_2, code91_3, ty91])
  rw [hwi, hwb]
  have hce3 : ∀ p, k + (b + 1) ≤ p + 1 → (cur.set i (l.getD (k + b) noAtomD)).getD p noAtomD = l.getD p noAtomD := by
    intro p hp
    have hne : i ≠ p := by omega
    rw [amGetD_set_ne hne]
    exact hce p (by omega)
  (rw [hI2]; with_reducible refine loopN_normal (m := _) ?_ ⟨b + 1, i + 1, cur.set i (l.getD (k + b) noAtomD), _, rfl, z, ⟨rfl, by omega, by omega, by rw [List.length_set]; exact hcl, by omega, by rw [take_set (by omega), hcu, show k + (b + 1) = k + b + 1 by omega, uniqN_new hc2], hce3, q3⟩, junk (by kernel_rfl)⟩; omega)
end Go.Proofs.Ytompindebndddaa
namespace Go.Proofs.Ytompindebndddaa
open Go.Am
set_option linter.unusedSimpArgs false
set_option linter.unusedVariables false
set_option maxRecDepth 100000
set_option maxHeartbeats 0
/-- Sorting nothing. -/
theorem ok_sortNil (v : Value) (h : Heap) (hl : Sl Rep.atom h v []) (K : Value → Heap → Prop) (hk : ∀ h', Ext h h' → K undef h') : Ok Try.prog tab ov 90 [v, .func (.func 43) ⟨[]⟩ ⟨[]⟩] h K := by
  rw [lay_nil h]
  have z := Ext.refl h
  have hln := fun (hh : Heap) => hl.lenA ds23 hh
  have hva : ∀ (h : Heap) (K : Value → Heap → Prop), valE (some v) h K = K v h := fun _ _ => rfl
  simp only [List.length_nil] at hln
  have hn0 : ((0 : Nat) : Int) = 0 := rfl
  refine Ok.into rfl tab_fn90 body90 rfl (m := 7) rfl ?_
  simp -implicitDefEqProofs only [syms, symx, Nat.reduceAdd, Nat.reduceMul, Int.reduceLT, Int.reduceLE, Int.reduceAdd, Int.reduceSub, Int.reduceToNat, Int.reduceNeg, reduceIte, Nat.reduceGT, Nat.reduceLT, Nat.reduceLeDiff, code145_0, code145_1, code145_2, code145_3, ty145, code90_0, ty90, code91_0, code91_1, code91_2, code91_3, ty91, code178_0, code178_1, code178_2, ty178, hln, hva, hn0]
  repeat' ((first
    | ((with_reducible first | apply forkD | apply forkB | apply forkN | apply forkNP | apply forkNot) <;> intro _)
    | ((with_reducible_and_instances apply unop_not); (· rfl))
    | ((with_reducible refine ⟨z.grw.lay _ _, ?_⟩); (intro _ h' zz x _); (try simp only [lay_lay, List.append_nil] at x); (replace z := zz); (clear zz); rw [lay_nil h'])) <;> simp -implicitDefEqProofs only [syms, symx, Nat.reduceAdd, Nat.reduceMul, Int.reduceLT, Int.reduceLE, Int.reduceAdd, Int.reduceSub, Int.reduceToNat, Int.reduceNeg, reduceIte, Nat.reduceGT, Nat.reduceLT, Nat.reduceLeDiff, code145_0, code145_1, code145_2, code145_3, ty145, code90_0, ty90, code91_0, code91_1, code91_2, code91_3, ty91, code178_0, code178_1, code178_2, ty178, hln, hva, hn0])
  refine Ok.into rfl tab_fn145 body145 rfl (m := 60) rfl ?_
  simp -implicitDefEqProofs only [syms, symx, Nat.reduceAdd, Nat.reduceMul, Int.reduceLT, Int.reduceLE, Int.reduceAdd, Int.reduceSub, Int.reduceToNat, Int.reduceNeg, reduceIte, Nat.reduceGT, Nat.reduceLT, Nat.reduceLeDiff, code145_0, code145_1, code145_2, code145_3, ty145, code90_0, ty90, code91_0, code91_1, code91_2, code91_3, ty91, code178_0, code178_1, code178_2, ty178, hln, hva, hn0]
  refine W_unroll ?_
  simp -implicitDefEqProofs only [syms, symx, Nat.reduceAdd, Nat.reduceMul, Int.reduceLT, Int.reduceLE, Int.reduceAdd, Int.reduceSub, Int.reduceToNat, Int.reduceNeg, reduceIte, Nat.reduceGT, Nat.reduceLT, Nat.reduceLeDiff, code145_0, code145_1, code145_2, code145_3, ty145, code90_0, ty90, code91_0, code91_1, code91_2, code91_3, ty91, code178_0, code178_1, code178_2, ty178, hln, hva, hn0, decide_false, forkE_false]
  refine Ok.into rfl tab_fn178 body178 rfl (m := 49) rfl ?_
  simp -implicitDefEqProofs only [syms, symx, Nat.reduceAdd, Nat.reduceMul, Int.reduceLT, Int.reduceLE, Int.reduceAdd, Int.reduceSub, Int.reduceToNat, Int.reduceNeg, reduceIte, Nat.reduceGT, Nat.reduceLT, Nat.reduceLeDiff, code145_0, code145_1, code145_2, code145_3, ty145, code90_0, ty90, code91_0, code91_1, code91_2, code91_3, ty91, code178_0, code178_1, code178_2, ty178, hln, hva, hn0]
  refine W_unroll ?_
  simp -implicitDefEqProofs only [syms, symx, Nat.reduceAdd, Nat.reduceMul, Int.reduceLT, Int.reduceLE, Int.reduceAdd, Int.reduceSub, Int.reduceToNat, Int.reduceNeg, reduceIte, Nat.reduceGT, Nat.reduceLT, Nat.reduceLeDiff, code145_0, code145_1, code145_2, code145_3, ty145, code90_0, ty90, code91_0, code91_1, code91_2, code91_3, ty91, code178_0, code178_1, code178_2, ty178, hln, hva, hn0, decide_false, forkE_false]
  refine W_unroll ?_
  simp -implicitDefEqProofs only [syms, symx, Nat.reduceAdd, Nat.reduceMul, Int.reduceLT, Int.reduceLE, Int.reduceAdd, Int.reduceSub, Int.reduceToNat, Int.reduceNeg, reduceIte, Nat.reduceGT, Nat.reduceLT, Nat.reduceLeDiff, code145_0, code145_1, code145_2, code145_3, ty145, code90_0, ty90, code91_0, code91_1, code91_2, code91_3, ty91, code178_0, code178_1, code178_2, ty178, hln, hva, hn0, decide_false, forkE_false]
  exact hk _ (z.upW _ _ (by omega))
theorem ok_compactNil (v : Value) (h : Heap) (hl : Sl Rep.atom h v []) (f : Value) (K : Value → Heap → Prop) (hk : ∀ h', Ext h h' → K v h') : Ok Try.prog tab ov 91 [v, f] h K := by
  rw [lay_nil h]
  have z := Ext.refl h
  have hln := fun (hh : Heap) => hl.lenA ds23 hh
  have hva : ∀ (h : Heap) (K : Value → Heap → Prop), valE (some v) h K = K v h := fun _ _ => rfl
  simp only [List.length_nil] at hln
  have hn0 : ((0 : Nat) : Int) = 0 := rfl
  refine Ok.into rfl tab_fn91 body91 rfl (m := 64) rfl ?_
  simp -implicitDefEqProofs only [syms, symx, Nat.reduceAdd, Nat.reduceMul, Int.reduceLT, Int.reduceLE, Int.reduceAdd, Int.reduceSub, Int.reduceToNat, Int.reduceNeg, reduceIte, Nat.reduceGT, Nat.reduceLT, Nat.reduceLeDiff, code145_0, code145_1, code145_2, code145_3, ty145, code90_0, ty90, code91_0, code91_1, code91_2, code91_3, ty91, code178_0, code178_1, code178_2, ty178, hln, hva, hn0, decide_true, forkE_true]
  exact hk _ (z.upW _ _ (by omega))
theorem ok_sorted (l : List AtomD) (v : Value) (h : Heap) (hl : Sl Rep.atom h v l) (hn : l.length ≤ 900) (hlt : ∀ x ∈ l, x.light = true) (K : Value → Heap → Prop)
    (hk : ∀ h' w, Ext h h' → OwnA h h' 39 w (sortA l) → K w h') : Ok Try.prog tab ov 33 [v] h K := by
  rw [lay_nil h]
  have z := Ext.refl h
  refine Ok.into rfl tab_fn33 body33 rfl (m := 9) rfl ?_
  simp -implicitDefEqProofs only [syms, symx, Nat.reduceAdd, Nat.reduceMul, Int.reduceLT, Int.reduceLE, Int.reduceAdd, Int.reduceSub, Int.reduceToNat, Int.reduceNeg, reduceIte, Nat.reduceGT, Nat.reduceLT, Nat.reduceLeDiff, code33_0, ty33]
  repeat' ((first
    | ((with_reducible first | apply forkD | apply forkB | apply forkN | apply forkNP | apply forkNot) <;> intro _)
    | ((with_reducible_and_instances apply unop_not); (· rfl))) <;> simp -implicitDefEqProofs only [syms, symx, Nat.reduceAdd, Nat.reduceMul, Int.reduceLT, Int.reduceLE, Int.reduceAdd, Int.reduceSub, Int.reduceToNat, Int.reduceNeg, reduceIte, Nat.reduceGT, Nat.reduceLT, Nat.reduceLeDiff, code33_0, ty33])
  refine ok_cloneA l v _ (hl.lay _ _) (by omega) _ (fun h' w x ho => ?_)
  rcases ho with ⟨rfl, ho⟩ | ⟨A, rfl, q, hA, hne⟩
  · have hva : ∀ (h : Heap) (K : Value → Heap → Prop), valE (some w) h K = K w h := fun _ _ => rfl
    ((skip); replace z := z.overW x (by (try simp only [lay_size, List.length_cons, List.length_nil]); omega); rw [lay_nil h'])
    simp -implicitDefEqProofs only [syms, symx, Nat.reduceAdd, Nat.reduceMul, Int.reduceLT, Int.reduceLE, Int.reduceAdd, Int.reduceSub, Int.reduceToNat, Int.reduceNeg, reduceIte, Nat.reduceGT, Nat.reduceLT, Nat.reduceLeDiff, code33_0, ty33, hva]
    repeat' ((first
      | ((with_reducible first | apply forkD | apply forkB | apply forkN | apply forkNP | apply forkNot) <;> intro _)
      | ((with_reducible_and_instances apply unop_not); (· rfl))) <;> simp -implicitDefEqProofs only [syms, symx, Nat.reduceAdd, Nat.reduceMul, Int.reduceLT, Int.reduceLE, Int.reduceAdd, Int.reduceSub, Int.reduceToNat, Int.reduceNeg, reduceIte, Nat.reduceGT, Nat.reduceLT, Nat.reduceLeDiff, code33_0, ty33, hva])
    refine ok_sortNil w _ (ho.lay _ _).sl _ (fun h' x => ?_)
    replace ho := ho.over x
    ((skip); replace z := z.overW x (by (try simp only [lay_size, List.length_cons, List.length_nil]); omega); rw [lay_nil h'])
    simp -implicitDefEqProofs only [syms, symx, Nat.reduceAdd, Nat.reduceMul, Int.reduceLT, Int.reduceLE, Int.reduceAdd, Int.reduceSub, Int.reduceToNat, Int.reduceNeg, reduceIte, Nat.reduceGT, Nat.reduceLT, Nat.reduceLeDiff, code33_0, ty33, hva]
    repeat' ((first
      | ((with_reducible first | apply forkD | apply forkB | apply forkN | apply forkNP | apply forkNot) <;> intro _)
      | ((with_reducible_and_instances apply unop_not); (· rfl))) <;> simp -implicitDefEqProofs only [syms, symx, Nat.reduceAdd, Nat.reduceMul, Int.reduceLT, Int.reduceLE, Int.reduceAdd, Int.reduceSub, Int.reduceToNat, Int.reduceNeg, reduceIte, Nat.reduceGT, Nat.reduceLT, Nat.reduceLeDiff, code33_0, ty33, hva])
    refine ok_compactNil w _ (ho.lay _ _).sl _ _ (fun h' x => ?_)
    replace ho := ho.over x
    ((skip); replace z := z.overW x (by (try simp only [lay_size, List.length_cons, List.length_nil]); omega); rw [lay_nil h'])
    simp -implicitDefEqProofs only [syms, symx, Nat.reduceAdd, Nat.reduceMul, Int.reduceLT, Int.reduceLE, Int.reduceAdd, Int.reduceSub, Int.reduceToNat, Int.reduceNeg, reduceIte, Nat.reduceGT, Nat.reduceLT, Nat.reduceLeDiff, code33_0, ty33, hva]
    repeat' ((first
      | ((with_reducible first | apply forkD | apply forkB | apply forkN | apply forkNP | apply forkNot) <;> intro _)
      | ((with_reducible_and_instances apply unop_not); (· rfl))) <;> simp -implicitDefEqProofs only [syms, symx, Nat.reduceAdd, Nat.reduceMul, Int.reduceLT, Int.reduceLE, Int.reduceAdd, Int.reduceSub, Int.reduceToNat, Int.reduceNeg, reduceIte, Nat.reduceGT, Nat.reduceLT, Nat.reduceLeDiff, code33_0, ty33, hva])
    exact hk _ _ (z.upW _ _ (by omega)) (.inl ⟨rfl, ho.lay _ _⟩)
  · ((skip); replace z := z.overW x (by (try simp only [lay_size, List.length_cons, List.length_nil]); omega); rw [lay_nil h'])
    simp -implicitDefEqProofs only [syms, symx, Nat.reduceAdd, Nat.reduceMul, Int.reduceLT, Int.reduceLE, Int.reduceAdd, Int.reduceSub, Int.reduceToNat, Int.reduceNeg, reduceIte, Nat.reduceGT, Nat.reduceLT, Nat.reduceLeDiff, code33_0, ty33]
    repeat' ((first
      | ((with_reducible first | apply forkD | apply forkB | apply forkN | apply forkNP | apply forkNot) <;> intro _)
      | ((with_reducible_and_instances apply unop_not); (· rfl))) <;> simp -implicitDefEqProofs only [syms, symx, Nat.reduceAdd, Nat.reduceMul, Int.reduceLT, Int.reduceLE, Int.reduceAdd, Int.reduceSub, Int.reduceToNat, Int.reduceNeg, reduceIte, Nat.reduceGT, Nat.reduceLT, Nat.reduceLeDiff, code33_0, ty33])
    refine ok_sortStable l A (G * 11 + l.length) h _ (z.upW _ _ (by omega)) hA (q.on _ _) hn hlt _ (fun h' l' x q' hp hst hso => ?_)
    replace z := x
    rw [lay_nil h']
    simp -implicitDefEqProofs only [syms, symx, Nat.reduceAdd, Nat.reduceMul, Int.reduceLT, Int.reduceLE, Int.reduceAdd, Int.reduceSub, Int.reduceToNat, Int.reduceNeg, reduceIte, Nat.reduceGT, Nat.reduceLT, Nat.reduceLeDiff, code33_0, ty33]
    repeat' ((first
      | ((with_reducible first | apply forkD | apply forkB | apply forkN | apply forkNP | apply forkNot) <;> intro _)
      | ((with_reducible_and_instances apply unop_not); (· rfl))) <;> simp -implicitDefEqProofs only [syms, symx, Nat.reduceAdd, Nat.reduceMul, Int.reduceLT, Int.reduceLE, Int.reduceAdd, Int.reduceSub, Int.reduceToNat, Int.reduceNeg, reduceIte, Nat.reduceGT, Nat.reduceLT, Nat.reduceLeDiff, code33_0, ty33])
    have key := fun K hk => ok_compact l' A h (h'.lay [] h'.low) (z.upW _ _ (by omega)) hA (q'.on _ _) (by rw [hp.length_eq]; omega) (light_perm hlt hp) K hk
    rw [uniq_sortA hp hst hso, hp.length_eq] at key
    refine key _ (fun h' w x ho => ?_)
    replace z := x
    have hva : ∀ (h : Heap) (K : Value → Heap → Prop), valE (some w) h K = K w h := fun _ _ => rfl
    rw [lay_nil h']
    simp -implicitDefEqProofs only [syms, symx, Nat.reduceAdd, Nat.reduceMul, Int.reduceLT, Int.reduceLE, Int.reduceAdd, Int.reduceSub, Int.reduceToNat, Int.reduceNeg, reduceIte, Nat.reduceGT, Nat.reduceLT, Nat.reduceLeDiff, code33_0, ty33, hva]
    repeat' ((first
      | ((with_reducible first | apply forkD | apply forkB | apply forkN | apply forkNP | apply forkNot) <;> intro _)
      | ((with_reducible_and_instances apply unop_not); (· rfl))) <;> simp -implicitDefEqProofs only [syms, symx, Nat.reduceAdd, Nat.reduceMul, Int.reduceLT, Int.reduceLE, Int.reduceAdd, Int.reduceSub, Int.reduceToNat, Int.reduceNeg, reduceIte, Nat.reduceGT, Nat.reduceLT, Nat.reduceLeDiff, code33_0, ty33, hva])
    exact hk _ _ (z.upW _ _ (by omega)) (ho.lay _ _)
end Go.Proofs.Ytompindebndddaa
namespace Go.Proofs.Ytompindebndddaa
open Go.Am
set_option linter.unusedSimpArgs false
set_option linter.unusedVariables false
set_option maxRecDepth 100000
set_option maxHeartbeats 0
theorem ok_is (l : List AtomD) (v : Value) (h : Heap) (hl : Sl Rep.atom h v l) (hn : l.length ≤ 1000) (hlt : ∀ x ∈ l, x.light = true) (K : Value → Heap → Prop)
    (hk : ∀ h', Ext h h' → K (.bool (isA l)) h') : Ok Try.prog tab ov 31 [v] h K := by
  rw [lay_nil h]
  have z := Ext.refl h
  have hln := fun (hh : Heap) => hl.lenA ds23 hh
  refine Ok.into rfl tab_fn31 body31 rfl (m := 24) rfl ?_
  simp -implicitDefEqProofs only [syms, symx, Nat.reduceAdd, Nat.reduceMul, Int.reduceLT, Int.reduceLE, Int.reduceAdd, Int.reduceSub, Int.reduceToNat, Int.reduceNeg, reduceIte, Nat.reduceGT, Nat.reduceLT, Nat.reduceLeDiff, code31_0, code31_1, ty31, hln]
  obtain ⟨I1, hI1⟩ : ∃ I : Nat → Env → Heap → Prop, I = (fun n e h' => ∃ (i : Nat) (h1 : Heap), h' = h1.lay [] h1.low ∧ Ext h h1 ∧ (n = l.length - i ∧ i ≤ l.length ∧ (∀ k, 0 < k → k < i → cmpD (l.getD (k - 1) noAtomD) (l.getD k noAtomD) < 0)) ∧ ∃ J : Nat → Value, e = (v :: J 1 :: J 2 :: J 3 :: J 4 :: .int .i64 l.length :: .int .i64 i :: J 7 :: J 8 :: J 9 :: J 10 :: J 11 :: J 12 :: J 13 :: J 14 :: J 15 :: J 16 :: J 17 :: J 18 :: J 19 :: J 20 :: J 21 :: J 22 :: J 23 :: J 24 :: [])) := ⟨_, rfl⟩
  refine W_loopN I1 _ (by rw [hI1]; exact ⟨0, _, rfl, z, ⟨rfl, by omega, fun k _ g => by omega⟩, junk (by kernel_rfl)⟩) ?_
  intro n e h' hin
  rw [hI1] at hin
  obtain ⟨i, h1', rfl, z, hinv, J, rfl⟩ := hin
  obtain ⟨rfl, hin, hup⟩ := hinv
  have hwi : IntKind.i64.wrap ((i : Int) + 1) = ((i + 1 : Nat) : Int) := by rw [wrap_i64 (by omega) (by omega)]; omega
  have hwi1 : 0 < i → IntKind.i64.wrap ((i : Int) - 1) = ((i - 1 : Nat) : Int) := fun _ => by rw [wrap_i64 (by omega) (by omega)]; omega
  simp -implicitDefEqProofs only [syms, symx, Nat.reduceAdd, Nat.reduceMul, Int.reduceLT, Int.reduceLE, Int.reduceAdd, Int.reduceSub, Int.reduceToNat, Int.reduceNeg, reduceIte, Nat.reduceGT, Nat.reduceLT, Nat.reduceLeDiff, code31_0, code31_1, ty31]
  refine forkD (fun hlt1 => ?_) (fun hlt1 => ?_)
  rotate_left
  · have hi : i = l.length := by omega
    subst hi
    rw [isA_iff.2 (asc_iff.2 hup)] at hk
    simp -implicitDefEqProofs only [syms, symx, Nat.reduceAdd, Nat.reduceMul, Int.reduceLT, Int.reduceLE, Int.reduceAdd, Int.reduceSub, Int.reduceToNat, Int.reduceNeg, reduceIte, Nat.reduceGT, Nat.reduceLT, Nat.reduceLeDiff, code31_0, code31_1, ty31]
    repeat' ((first
      | ((with_reducible first | apply forkD | apply forkB | apply forkN | apply forkNP | apply forkNot) <;> intro _)
      | ((with_reducible_and_instances apply unop_not); (· rfl))
      | ((with_reducible refine ⟨z.grw.lay _ _, ?_⟩); (intro _ h' zz x _); (try simp only [lay_lay, List.append_nil] at x); (replace z := zz); (clear zz); rw [lay_nil h'])) <;> simp -implicitDefEqProofs only [syms, symx, Nat.reduceAdd, Nat.reduceMul, Int.reduceLT, Int.reduceLE, Int.reduceAdd, Int.reduceSub, Int.reduceToNat, Int.reduceNeg, reduceIte, Nat.reduceGT, Nat.reduceLT, Nat.reduceLeDiff, code31_0, code31_1, ty31])
    exact hk _ (z.upW _ _ (by omega))
  have hr : l[(i : Int).toNat]? = some (l.getD i noAtomD) := getD_at (by omega)
  have hr1 : l[((i - 1 : Nat) : Int).toNat]? = some (l.getD (i - 1) noAtomD) := getD_at (by omega)
  simp -implicitDefEqProofs only [syms, symx, Nat.reduceAdd, Nat.reduceMul, Int.reduceLT, Int.reduceLE, Int.reduceAdd, Int.reduceSub, Int.reduceToNat, Int.reduceNeg, reduceIte, Nat.reduceGT, Nat.reduceLT, Nat.reduceLeDiff, code31_0, code31_1, ty31]
  refine D31_18 (z.upW _ _ (by omega)) ?_
  simp -implicitDefEqProofs only [syms, symx, Nat.reduceAdd, Nat.reduceMul, Int.reduceLT, Int.reduceLE, Int.reduceAdd, Int.reduceSub, Int.reduceToNat, Int.reduceNeg, reduceIte, Nat.reduceGT, Nat.reduceLT, Nat.reduceLeDiff, code31_0, code31_1, ty31]
  refine forkD (fun hpos => ?_) (fun hpos => ?_)
  rotate_left
  · have hi0 : i = 0 := by omega
    subst hi0
    simp -implicitDefEqProofs only [syms, symx, Nat.reduceAdd, Nat.reduceMul, Int.reduceLT, Int.reduceLE, Int.reduceAdd, Int.reduceSub, Int.reduceToNat, Int.reduceNeg, reduceIte, Nat.reduceGT, Nat.reduceLT, Nat.reduceLeDiff, code31_0, code31_1, ty31]
    repeat' ((first
      | ((with_reducible first | apply forkD | apply forkB | apply forkN | apply forkNP | apply forkNot) <;> intro _)
      | ((with_reducible_and_instances apply unop_not); (· rfl))
      | ((with_reducible refine ⟨z.grw.lay _ _, ?_⟩); (intro _ h' zz x _); (try simp only [lay_lay, List.append_nil] at x); (replace z := zz); (clear zz); rw [lay_nil h'])) <;> simp -implicitDefEqProofs only [syms, symx, Nat.reduceAdd, Nat.reduceMul, Int.reduceLT, Int.reduceLE, Int.reduceAdd, Int.reduceSub, Int.reduceToNat, Int.reduceNeg, reduceIte, Nat.reduceGT, Nat.reduceLT, Nat.reduceLeDiff, code31_0, code31_1, ty31])
    (rw [hI1]; with_reducible refine loopN_normal (m := _) ?_ ⟨1, _, rfl, z, ⟨rfl, by omega, fun k _ g => by omega⟩, junk (by kernel_rfl)⟩; omega)
  have hwi1 := hwi1 (by omega)
  simp -implicitDefEqProofs only [syms, symx, Nat.reduceAdd, Nat.reduceMul, Int.reduceLT, Int.reduceLE, Int.reduceAdd, Int.reduceSub, Int.reduceToNat, Int.reduceNeg, reduceIte, Nat.reduceGT, Nat.reduceLT, Nat.reduceLeDiff, code31_0, code31_1, ty31, hwi1]
  repeat' ((first
    | ((with_reducible first | apply forkD | apply forkB | apply forkN | apply forkNP | apply forkNot) <;> intro _)
    | with_reducible_and_instances refine ixa_at (hl.mono z.inc) ds23 sz39 (by omega) hr1 (fun p hp => ?_)
    | with_reducible_and_instances refine ixa_at (hl.mono z.inc) ds23 sz39 (by omega) hr (fun p hp => ?_)
    | with_reducible_and_instances refine lda hp ag39 sz39 ?_
    | ((with_reducible_and_instances apply unop_not); (· rfl))
    | ((with_reducible refine ⟨z.grw.lay _ _, ?_⟩); (intro _ h' zz x _); (try simp only [lay_lay, List.append_nil] at x); (replace z := zz); (clear zz); rw [lay_nil h'])) <;> simp -implicitDefEqProofs only [syms, symx, Nat.reduceAdd, Nat.reduceMul, Int.reduceLT, Int.reduceLE, Int.reduceAdd, Int.reduceSub, Int.reduceToNat, Int.reduceNeg, reduceIte, Nat.reduceGT, Nat.reduceLT, Nat.reduceLeDiff, code31_0, code31_1, ty31, hwi1])
  refine ok_cmp _ _ (light_getD hlt (by omega)) (light_getD hlt (by omega)) _ _ (fun h' x => ?_)
  ((first | ((with_reducible refine KOpsX_call ?_ ?_ ?_); (· exact (by (try simp only [lay_size, List.length_cons, List.length_nil]); have := z.size; omega)); (· first | exact x | simpa only [lay_lay, lay_size, List.append_nil, List.length_cons, List.length_nil, Nat.add_zero] using x)) | skip); replace z := z.overW x (by (try simp only [lay_size, List.length_cons, List.length_nil]); omega); rw [lay_nil h'])
  simp -implicitDefEqProofs only [syms, symx, Nat.reduceAdd, Nat.reduceMul, Int.reduceLT, Int.reduceLE, Int.reduceAdd, Int.reduceSub, Int.reduceToNat, Int.reduceNeg, reduceIte, Nat.reduceGT, Nat.reduceLT, Nat.reduceLeDiff, code31_0, code31_1, ty31]
  refine forkD (fun hc => ?_) (fun hc => ?_)
  · rw [isA_no (fun g => by have := asc_iff.1 g i (by omega) (by omega); omega)] at hk
    simp -implicitDefEqProofs only [syms, symx, Nat.reduceAdd, Nat.reduceMul, Int.reduceLT, Int.reduceLE, Int.reduceAdd, Int.reduceSub, Int.reduceToNat, Int.reduceNeg, reduceIte, Nat.reduceGT, Nat.reduceLT, Nat.reduceLeDiff, code31_0, code31_1, ty31]
    repeat' ((first
      | ((with_reducible first | apply forkD | apply forkB | apply forkN | apply forkNP | apply forkNot) <;> intro _)
      | with_reducible_and_instances refine ixa_at (hl.mono z.inc) ds23 sz39 (by omega) hr1 (fun p hp => ?_)
      | with_reducible_and_instances refine ixa_at (hl.mono z.inc) ds23 sz39 (by omega) hr (fun p hp => ?_)
      | with_reducible_and_instances refine lda hp ag39 sz39 ?_
      | ((with_reducible_and_instances apply unop_not); (· rfl))
      | ((with_reducible refine ⟨z.grw.lay _ _, ?_⟩); (intro _ h' zz x _); (try simp only [lay_lay, List.append_nil] at x); (replace z := zz); (clear zz); rw [lay_nil h'])) <;> simp -implicitDefEqProofs only [syms, symx, Nat.reduceAdd, Nat.reduceMul, Int.reduceLT, Int.reduceLE, Int.reduceAdd, Int.reduceSub, Int.reduceToNat, Int.reduceNeg, reduceIte, Nat.reduceGT, Nat.reduceLT, Nat.reduceLeDiff, code31_0, code31_1, ty31])
    exact hk _ (z.upW _ _ (by omega))
  · simp -implicitDefEqProofs only [syms, symx, Nat.reduceAdd, Nat.reduceMul, Int.reduceLT, Int.reduceLE, Int.reduceAdd, Int.reduceSub, Int.reduceToNat, Int.reduceNeg, reduceIte, Nat.reduceGT, Nat.reduceLT, Nat.reduceLeDiff, code31_0, code31_1, ty31]
    repeat' ((first
      | ((with_reducible first | apply forkD | apply forkB | apply forkN | apply forkNP | apply forkNot) <;> intro _)
      | with_reducible_and_instances refine ixa_at (hl.mono z.inc) ds23 sz39 (by omega) hr1 (fun p hp => ?_)
      | with_reducible_and_instances refine ixa_at (hl.mono z.inc) ds23 sz39 (by omega) hr (fun p hp => ?_)
      | with_reducible_and_instances refine lda hp ag39 sz39 ?_
      | ((with_reducible_and_instances apply unop_not); (· rfl))
      | ((with_reducible refine ⟨z.grw.lay _ _, ?_⟩); (intro _ h' zz x _); (try simp only [lay_lay, List.append_nil] at x); (replace z := zz); (clear zz); rw [lay_nil h'])) <;> simp -implicitDefEqProofs only [syms, symx, Nat.reduceAdd, Nat.reduceMul, Int.reduceLT, Int.reduceLE, Int.reduceAdd, Int.reduceSub, Int.reduceToNat, Int.reduceNeg, reduceIte, Nat.reduceGT, Nat.reduceLT, Nat.reduceLeDiff, code31_0, code31_1, ty31])
    rw [hwi]
    (rw [hI1]; with_reducible refine loopN_normal (m := _) ?_ ⟨i + 1, _, rfl, z, ⟨rfl, by omega, fun k g1 g2 => by
      rcases Nat.lt_or_ge k i with e | e
      · exact hup k g1 e
      · have e : k = i := by omega
        subst e
        omega⟩, junk (by kernel_rfl)⟩; omega)
theorem ok_made (l : List AtomD) (v : Value) (h : Heap) (hl : Sl Rep.atom h v l) (hn : l.length ≤ 900) (hlt : ∀ x ∈ l, x.light = true) (K : Value → Heap → Prop)
    (hk : ∀ h' w, Ext h h' → OwnA h h' 39 w (sortA l) → K w h') : Ok Try.prog tab ov 93 [v] h K := by
  rw [lay_nil h]
  have z := Ext.refl h
  refine Ok.into rfl tab_fn93 body93 rfl (m := 8) rfl ?_
  simp -implicitDefEqProofs only [syms, symx, Nat.reduceAdd, Nat.reduceMul, Int.reduceLT, Int.reduceLE, Int.reduceAdd, Int.reduceSub, Int.reduceToNat, Int.reduceNeg, reduceIte, Nat.reduceGT, Nat.reduceLT, Nat.reduceLeDiff, code93_0, ty93]
  repeat' ((first
    | ((with_reducible first | apply forkD | apply forkB | apply forkN | apply forkNP | apply forkNot) <;> intro _)
    | with_reducible_and_instances refine ixa_at (hl.mono z.inc) ds23 sz39 (by omega) hr1 (fun p hp => ?_)
    | with_reducible_and_instances refine ixa_at (hl.mono z.inc) ds23 sz39 (by omega) hr (fun p hp => ?_)
    | with_reducible_and_instances refine lda hp ag39 sz39 ?_
    | ((with_reducible_and_instances apply unop_not); (· rfl))) <;> simp -implicitDefEqProofs only [syms, symx, Nat.reduceAdd, Nat.reduceMul, Int.reduceLT, Int.reduceLE, Int.reduceAdd, Int.reduceSub, Int.reduceToNat, Int.reduceNeg, reduceIte, Nat.reduceGT, Nat.reduceLT, Nat.reduceLeDiff, code93_0, ty93])
  refine ok_is l v _ (hl.lay _ _) (by omega) hlt _ (fun h' x => ?_)
  ((skip); replace z := z.overW x (by (try simp only [lay_size, List.length_cons, List.length_nil]); omega); rw [lay_nil h'])
  cases hi : isA l
  · simp -implicitDefEqProofs only [syms, symx, Nat.reduceAdd, Nat.reduceMul, Int.reduceLT, Int.reduceLE, Int.reduceAdd, Int.reduceSub, Int.reduceToNat, Int.reduceNeg, reduceIte, Nat.reduceGT, Nat.reduceLT, Nat.reduceLeDiff, code93_0, ty93]
    repeat' ((first
      | ((with_reducible first | apply forkD | apply forkB | apply forkN | apply forkNP | apply forkNot) <;> intro _)
      | with_reducible_and_instances refine ixa_at (hl.mono z.inc) ds23 sz39 (by omega) hr1 (fun p hp => ?_)
      | with_reducible_and_instances refine ixa_at (hl.mono z.inc) ds23 sz39 (by omega) hr (fun p hp => ?_)
      | with_reducible_and_instances refine lda hp ag39 sz39 ?_
      | ((with_reducible_and_instances apply unop_not); (· rfl))) <;> simp -implicitDefEqProofs only [syms, symx, Nat.reduceAdd, Nat.reduceMul, Int.reduceLT, Int.reduceLE, Int.reduceAdd, Int.reduceSub, Int.reduceToNat, Int.reduceNeg, reduceIte, Nat.reduceGT, Nat.reduceLT, Nat.reduceLeDiff, code93_0, ty93])
    refine ok_sorted l v _ ((hl.mono z.inc).lay _ _) hn hlt _ (fun h' w x ho => ?_)
    have hsz := z.size
    replace ho := ho.down (h0 := h) (by rw [lay_size]; omega)
    ((skip); replace z := z.overW x (by (try simp only [lay_size, List.length_cons, List.length_nil]); omega); rw [lay_nil h'])
    have hva : ∀ (h : Heap) (K : Value → Heap → Prop), valE (some w) h K = K w h := fun _ _ => rfl
    simp -implicitDefEqProofs only [syms, symx, Nat.reduceAdd, Nat.reduceMul, Int.reduceLT, Int.reduceLE, Int.reduceAdd, Int.reduceSub, Int.reduceToNat, Int.reduceNeg, reduceIte, Nat.reduceGT, Nat.reduceLT, Nat.reduceLeDiff, code93_0, ty93, hva]
    repeat' ((first
      | ((with_reducible first | apply forkD | apply forkB | apply forkN | apply forkNP | apply forkNot) <;> intro _)
      | with_reducible_and_instances refine ixa_at (hl.mono z.inc) ds23 sz39 (by omega) hr1 (fun p hp => ?_)
      | with_reducible_and_instances refine ixa_at (hl.mono z.inc) ds23 sz39 (by omega) hr (fun p hp => ?_)
      | with_reducible_and_instances refine lda hp ag39 sz39 ?_
      | ((with_reducible_and_instances apply unop_not); (· rfl))) <;> simp -implicitDefEqProofs only [syms, symx, Nat.reduceAdd, Nat.reduceMul, Int.reduceLT, Int.reduceLE, Int.reduceAdd, Int.reduceSub, Int.reduceToNat, Int.reduceNeg, reduceIte, Nat.reduceGT, Nat.reduceLT, Nat.reduceLeDiff, code93_0, ty93, hva])
    exact hk _ _ (z.upW _ _ (by omega)) (ho.lay _ _)
  · simp -implicitDefEqProofs only [syms, symx, Nat.reduceAdd, Nat.reduceMul, Int.reduceLT, Int.reduceLE, Int.reduceAdd, Int.reduceSub, Int.reduceToNat, Int.reduceNeg, reduceIte, Nat.reduceGT, Nat.reduceLT, Nat.reduceLeDiff, code93_0, ty93]
    repeat' ((first
      | ((with_reducible first | apply forkD | apply forkB | apply forkN | apply forkNP | apply forkNot) <;> intro _)
      | with_reducible_and_instances refine ixa_at (hl.mono z.inc) ds23 sz39 (by omega) hr1 (fun p hp => ?_)
      | with_reducible_and_instances refine ixa_at (hl.mono z.inc) ds23 sz39 (by omega) hr (fun p hp => ?_)
      | with_reducible_and_instances refine lda hp ag39 sz39 ?_
      | ((with_reducible_and_instances apply unop_not); (· rfl))) <;> simp -implicitDefEqProofs only [syms, symx, Nat.reduceAdd, Nat.reduceMul, Int.reduceLT, Int.reduceLE, Int.reduceAdd, Int.reduceSub, Int.reduceToNat, Int.reduceNeg, reduceIte, Nat.reduceGT, Nat.reduceLT, Nat.reduceLeDiff, code93_0, ty93])
    refine ok_cloneA l v _ ((hl.mono z.inc).lay _ _) (by omega) _ (fun h' w x ho => ?_)
    have hsz := z.size
    replace ho := (ho.own (by omega)).down (h0 := h) (by rw [lay_size]; omega)
    rw [← sortA_asc (isA_iff.1 hi)] at ho
    ((skip); replace z := z.overW x (by (try simp only [lay_size, List.length_cons, List.length_nil]); omega); rw [lay_nil h'])
    have hva : ∀ (h : Heap) (K : Value → Heap → Prop), valE (some w) h K = K w h := fun _ _ => rfl
    simp -implicitDefEqProofs only [syms, symx, Nat.reduceAdd, Nat.reduceMul, Int.reduceLT, Int.reduceLE, Int.reduceAdd, Int.reduceSub, Int.reduceToNat, Int.reduceNeg, reduceIte, Nat.reduceGT, Nat.reduceLT, Nat.reduceLeDiff, code93_0, ty93, hva]
    repeat' ((first
      | ((with_reducible first | apply forkD | apply forkB | apply forkN | apply forkNP | apply forkNot) <;> intro _)
      | with_reducible_and_instances refine ixa_at (hl.mono z.inc) ds23 sz39 (by omega) hr1 (fun p hp => ?_)
      | with_reducible_and_instances refine ixa_at (hl.mono z.inc) ds23 sz39 (by omega) hr (fun p hp => ?_)
      | with_reducible_and_instances refine lda hp ag39 sz39 ?_
      | ((with_reducible_and_instances apply unop_not); (· rfl))) <;> simp -implicitDefEqProofs only [syms, symx, Nat.reduceAdd, Nat.reduceMul, Int.reduceLT, Int.reduceLE, Int.reduceAdd, Int.reduceSub, Int.reduceToNat, Int.reduceNeg, reduceIte, Nat.reduceGT, Nat.reduceLT, Nat.reduceLeDiff, code93_0, ty93, hva])
    exact hk _ _ (z.upW _ _ (by omega)) (ho.lay _ _)
end Go.Proofs.Ytompindebndddaa
namespace Go.Proofs.Ytompindebndddaa
open Go.Am
set_option linter.unusedSimpArgs false
set_option linter.unusedVariables false
set_option maxRecDepth 100000
set_option maxHeartbeats 0
theorem ok_binSearch (l : List AtomD) (a : AtomD) (v : Value) (h : Heap) (hl : Sl Rep.atom h v l) (hs : AscD l) (hn : l.length ≤ 1000) (hlt : ∀ x ∈ l, x.light = true) (ha : a.light = true) (K : Value → Heap → Prop)
    (hk : ∀ h' i, Ext h h' → AmPlace l a i → K (.tuple #[.int .i64 (i : Nat), .bool (hasA l a)]) h') : Ok Try.prog tab ov 146 [v, a.val, .func (.func 43) ⟨[]⟩ ⟨[]⟩] h K := by
  rw [lay_nil h]
  have z := Ext.refl h
  have hln := fun (hh : Heap) => hl.lenA ds23 hh
  refine Ok.into rfl tab_fn146 body146 rfl (m := 46) rfl ?_
  simp -implicitDefEqProofs only [syms, symx, Nat.reduceAdd, Nat.reduceMul, Int.reduceLT, Int.reduceLE, Int.reduceAdd, Int.reduceSub, Int.reduceToNat, Int.reduceNeg, reduceIte, Nat.reduceGT, Nat.reduceLT, Nat.reduceLeDiff, code146_0, code146_1, code146_2, ty146, hln, cells_atom]
  refine W_fold (fun h' x hq => ?_)
  have q0 := hq 0 _ rfl
  clear hq
  (replace z := z.overW x (by (try simp only [lay_size, List.length_cons, List.length_nil]); omega); rw [lay_nil h'])
  obtain ⟨I1, hI1⟩ : ∃ I : Nat → Env → Heap → Prop, I = (fun n e h' => ∃ (i j : Nat) (h1 : Heap), h' = h1.lay [] h1.low ∧ Ext h h1 ∧ (n = j - i ∧ i ≤ j ∧ j ≤ l.length ∧ (∀ k, k < i → cmpD (l.getD k noAtomD) a < 0) ∧ (∀ k, j ≤ k → k < l.length → ¬ cmpD (l.getD k noAtomD) a < 0) ∧ Holds h1 (h.size + 0) (.row a.cells 39 false)) ∧ ∃ J : Nat → Value, e = (v :: J 1 :: .func (.func 43) ⟨[]⟩ ⟨[]⟩ :: J 3 :: .pointer (some ⟨h.size + 0, 0, none⟩) :: J 5 :: J 6 :: J 7 :: .int .i64 l.length :: .int .i64 i :: .int .i64 j :: J 11 :: J 12 :: J 13 :: J 14 :: J 15 :: J 16 :: J 17 :: J 18 :: J 19 :: J 20 :: J 21 :: J 22 :: J 23 :: J 24 :: J 25 :: J 26 :: J 27 :: J 28 :: J 29 :: J 30 :: J 31 :: J 32 :: J 33 :: J 34 :: J 35 :: J 36 :: J 37 :: J 38 :: J 39 :: J 40 :: J 41 :: J 42 :: J 43 :: J 44 :: J 45 :: J 46 :: J 47 :: J 48 :: [])) := ⟨_, rfl⟩
  refine W_loopN I1 _ (by rw [hI1]; exact ⟨0, l.length, _, rfl, z, ⟨rfl, by omega, by omega, fun k g => by omega, fun k g1 g2 => by omega, q0⟩, junk (by kernel_rfl)⟩) ?_
  intro n e h' hin
  rw [hI1] at hin
  obtain ⟨i, j, h1', rfl, z, hinv, J, rfl⟩ := hin
  clear q0
  obtain ⟨rfl, hij, hjl, hlo, hhi, q0⟩ := hinv
  simp -implicitDefEqProofs only [syms, symx, Nat.reduceAdd, Nat.reduceMul, Int.reduceLT, Int.reduceLE, Int.reduceAdd, Int.reduceSub, Int.reduceToNat, Int.reduceNeg, reduceIte, Nat.reduceGT, Nat.reduceLT, Nat.reduceLeDiff, code146_0, code146_1, code146_2, ty146]
  refine forkD (fun hlt1 => ?_) (fun hlt1 => ?_)
  rotate_left
  · have e : i = j := by omega
    subst e
    have hpl : AmPlace l a i := ⟨hjl, hlo, hhi⟩
    have hhas := hpl.has hs
    simp -implicitDefEqProofs only [syms, symx, Nat.reduceAdd, Nat.reduceMul, Int.reduceLT, Int.reduceLE, Int.reduceAdd, Int.reduceSub, Int.reduceToNat, Int.reduceNeg, reduceIte, Nat.reduceGT, Nat.reduceLT, Nat.reduceLeDiff, code146_0, code146_1, code146_2, ty146]
    refine D146_24 (z.upW _ _ (by omega)) ?_
    simp -implicitDefEqProofs only [syms, symx, Nat.reduceAdd, Nat.reduceMul, Int.reduceLT, Int.reduceLE, Int.reduceAdd, Int.reduceSub, Int.reduceToNat, Int.reduceNeg, reduceIte, Nat.reduceGT, Nat.reduceLT, Nat.reduceLeDiff, code146_0, code146_1, code146_2, ty146]
    refine forkD (fun hin => ?_) (fun hin => ?_)
    rotate_left
    · have e : hasA l a = false := by
        cases e : hasA l a
        · rfl
        · exact absurd (hhas.1 e).1 (by omega)
      rw [e] at hk
      simp -implicitDefEqProofs only [syms, symx, Nat.reduceAdd, Nat.reduceMul, Int.reduceLT, Int.reduceLE, Int.reduceAdd, Int.reduceSub, Int.reduceToNat, Int.reduceNeg, reduceIte, Nat.reduceGT, Nat.reduceLT, Nat.reduceLeDiff, code146_0, code146_1, code146_2, ty146]
      repeat' ((first
        | ((with_reducible first | apply forkD | apply forkB | apply forkN | apply forkNP | apply forkNot) <;> intro _)
        | ((with_reducible_and_instances apply unop_not); (· rfl))
        | ((with_reducible refine ⟨z.grw.lay _ _, ?_⟩); (intro _ h' zz x _); (try simp only [lay_lay, List.append_nil] at x); (try replace q0 := q0.over x); (replace z := zz); (clear zz); rw [lay_nil h'])) <;> simp -implicitDefEqProofs only [syms, symx, Nat.reduceAdd, Nat.reduceMul, Int.reduceLT, Int.reduceLE, Int.reduceAdd, Int.reduceSub, Int.reduceToNat, Int.reduceNeg, reduceIte, Nat.reduceGT, Nat.reduceLT, Nat.reduceLeDiff, code146_0, code146_1, code146_2, ty146])
      exact hk _ _ (z.upW _ _ (by omega)) hpl
    have hr : l[(i : Int).toNat]? = some (l.getD i noAtomD) := getD_at (by omega)
    simp -implicitDefEqProofs only [syms, symx, Nat.reduceAdd, Nat.reduceMul, Int.reduceLT, Int.reduceLE, Int.reduceAdd, Int.reduceSub, Int.reduceToNat, Int.reduceNeg, reduceIte, Nat.reduceGT, Nat.reduceLT, Nat.reduceLeDiff, code146_0, code146_1, code146_2, ty146]
    repeat' ((first
      | ((with_reducible first | apply forkD | apply forkB | apply forkN | apply forkNP | apply forkNot) <;> intro _)
      | with_reducible_and_instances refine ixa_at (hl.mono z.inc) ds23 sz39 (by omega) hr (fun p hp => ?_)
      | with_reducible_and_instances refine lda hp ag39 sz39 ?_
      | ((with_reducible_and_instances apply unop_not); (· rfl))
      | ((with_reducible refine ⟨z.grw.lay _ _, ?_⟩); (intro _ h' zz x _); (try simp only [lay_lay, List.append_nil] at x); (try replace q0 := q0.over x); (replace z := zz); (clear zz); rw [lay_nil h'])) <;> simp -implicitDefEqProofs only [syms, symx, Nat.reduceAdd, Nat.reduceMul, Int.reduceLT, Int.reduceLE, Int.reduceAdd, Int.reduceSub, Int.reduceToNat, Int.reduceNeg, reduceIte, Nat.reduceGT, Nat.reduceLT, Nat.reduceLeDiff, code146_0, code146_1, code146_2, ty146, q0.lay, cells_atom, ↓cut_atom, agg_atom, valE_atom])
    refine ok_cmp _ _ (light_getD hlt (by omega)) ha _ _ (fun h' x => ?_)
    ((first | ((with_reducible refine KOpsX_call ?_ ?_ ?_); (· exact (by (try simp only [lay_size, List.length_cons, List.length_nil]); have := z.size; omega)); (· first | exact x | simpa only [lay_lay, lay_size, List.append_nil, List.length_cons, List.length_nil, Nat.add_zero] using x)) | skip); replace z := z.overW x (by (try simp only [lay_size, List.length_cons, List.length_nil]); omega); (try replace q0 := q0.over x); rw [lay_nil h'])
    simp -implicitDefEqProofs only [syms, symx, Nat.reduceAdd, Nat.reduceMul, Int.reduceLT, Int.reduceLE, Int.reduceAdd, Int.reduceSub, Int.reduceToNat, Int.reduceNeg, reduceIte, Nat.reduceGT, Nat.reduceLT, Nat.reduceLeDiff, code146_0, code146_1, code146_2, ty146]
    refine forkB (fun hc => ?_) (fun hc => ?_)
    · rw [hhas.2 ⟨by omega, hc⟩] at hk
      simp -implicitDefEqProofs only [syms, symx, Nat.reduceAdd, Nat.reduceMul, Int.reduceLT, Int.reduceLE, Int.reduceAdd, Int.reduceSub, Int.reduceToNat, Int.reduceNeg, reduceIte, Nat.reduceGT, Nat.reduceLT, Nat.reduceLeDiff, code146_0, code146_1, code146_2, ty146]
      repeat' ((first
        | ((with_reducible first | apply forkD | apply forkB | apply forkN | apply forkNP | apply forkNot) <;> intro _)
        | with_reducible_and_instances refine ixa_at (hl.mono z.inc) ds23 sz39 (by omega) hr (fun p hp => ?_)
        | with_reducible_and_instances refine lda hp ag39 sz39 ?_
        | ((with_reducible_and_instances apply unop_not); (· rfl))
        | ((with_reducible refine ⟨z.grw.lay _ _, ?_⟩); (intro _ h' zz x _); (try simp only [lay_lay, List.append_nil] at x); (try replace q0 := q0.over x); (replace z := zz); (clear zz); rw [lay_nil h'])) <;> simp -implicitDefEqProofs only [syms, symx, Nat.reduceAdd, Nat.reduceMul, Int.reduceLT, Int.reduceLE, Int.reduceAdd, Int.reduceSub, Int.reduceToNat, Int.reduceNeg, reduceIte, Nat.reduceGT, Nat.reduceLT, Nat.reduceLeDiff, code146_0, code146_1, code146_2, ty146])
      exact hk _ _ (z.upW _ _ (by omega)) hpl
    · have e : hasA l a = false := by
        cases e : hasA l a
        · rfl
        · exact absurd (hhas.1 e).2 hc
      rw [e] at hk
      simp -implicitDefEqProofs only [syms, symx, Nat.reduceAdd, Nat.reduceMul, Int.reduceLT, Int.reduceLE, Int.reduceAdd, Int.reduceSub, Int.reduceToNat, Int.reduceNeg, reduceIte, Nat.reduceGT, Nat.reduceLT, Nat.reduceLeDiff, code146_0, code146_1, code146_2, ty146]
      repeat' ((first
        | ((with_reducible first | apply forkD | apply forkB | apply forkN | apply forkNP | apply forkNot) <;> intro _)
        | with_reducible_and_instances refine ixa_at (hl.mono z.inc) ds23 sz39 (by omega) hr (fun p hp => ?_)
        | with_reducible_and_instances refine lda hp ag39 sz39 ?_
        | ((with_reducible_and_instances apply unop_not); (· rfl))
        | ((with_reducible refine ⟨z.grw.lay _ _, ?_⟩); (intro _ h' zz x _); (try simp only [lay_lay, List.append_nil] at x); (try replace q0 := q0.over x); (replace z := zz); (clear zz); rw [lay_nil h'])) <;> simp -implicitDefEqProofs only [syms, symx, Nat.reduceAdd, Nat.reduceMul, Int.reduceLT, Int.reduceLE, Int.reduceAdd, Int.reduceSub, Int.reduceToNat, Int.reduceNeg, reduceIte, Nat.reduceGT, Nat.reduceLT, Nat.reduceLeDiff, code146_0, code146_1, code146_2, ty146])
      exact hk _ _ (z.upW _ _ (by omega)) hpl
  obtain ⟨e1, e2, e3, e4⟩ := half_u64 i j (by omega)
  simp -implicitDefEqProofs only [syms, symx, Nat.reduceAdd, Nat.reduceMul, Int.reduceLT, Int.reduceLE, Int.reduceAdd, Int.reduceSub, Int.reduceToNat, Int.reduceNeg, reduceIte, Nat.reduceGT, Nat.reduceLT, Nat.reduceLeDiff, code146_0, code146_1, code146_2, ty146, e1]
  repeat' ((first
    | ((with_reducible first | apply forkD | apply forkB | apply forkN | apply forkNP | apply forkNot) <;> intro _)
    | with_reducible_and_instances refine ixa_at (hl.mono z.inc) ds23 sz39 (by omega) hr (fun p hp => ?_)
    | with_reducible_and_instances refine lda hp ag39 sz39 ?_
    | ((with_reducible_and_instances apply unop_not); (· rfl))
    | ((with_reducible refine ⟨z.grw.lay _ _, ?_⟩); (intro _ h' zz x _); (try simp only [lay_lay, List.append_nil] at x); (try replace q0 := q0.over x); (replace z := zz); (clear zz); rw [lay_nil h'])) <;> simp -implicitDefEqProofs only [syms, symx, Nat.reduceAdd, Nat.reduceMul, Int.reduceLT, Int.reduceLE, Int.reduceAdd, Int.reduceSub, Int.reduceToNat, Int.reduceNeg, reduceIte, Nat.reduceGT, Nat.reduceLT, Nat.reduceLeDiff, code146_0, code146_1, code146_2, ty146, e1])
  rw [w_conv rfl rfl rfl (pure_iu _) rfl, e2]
  simp -implicitDefEqProofs only [syms, symx, Nat.reduceAdd, Nat.reduceMul, Int.reduceLT, Int.reduceLE, Int.reduceAdd, Int.reduceSub, Int.reduceToNat, Int.reduceNeg, reduceIte, Nat.reduceGT, Nat.reduceLT, Nat.reduceLeDiff, code146_0, code146_1, code146_2, ty146, e1]
  rw [bin_shr (by decide), e4]
  simp -implicitDefEqProofs only [syms, symx, Nat.reduceAdd, Nat.reduceMul, Int.reduceLT, Int.reduceLE, Int.reduceAdd, Int.reduceSub, Int.reduceToNat, Int.reduceNeg, reduceIte, Nat.reduceGT, Nat.reduceLT, Nat.reduceLeDiff, code146_0, code146_1, code146_2, ty146, e1]
  rw [w_conv rfl rfl rfl (pure_ui _) rfl, e3]
  simp -implicitDefEqProofs only [syms, symx, Nat.reduceAdd, Nat.reduceMul, Int.reduceLT, Int.reduceLE, Int.reduceAdd, Int.reduceSub, Int.reduceToNat, Int.reduceNeg, reduceIte, Nat.reduceGT, Nat.reduceLT, Nat.reduceLeDiff, code146_0, code146_1, code146_2, ty146, e1]
  repeat' ((first
    | ((with_reducible first | apply forkD | apply forkB | apply forkN | apply forkNP | apply forkNot) <;> intro _)
    | with_reducible_and_instances refine ixa_at (hl.mono z.inc) ds23 sz39 (by omega) hr (fun p hp => ?_)
    | with_reducible_and_instances refine lda hp ag39 sz39 ?_
    | ((with_reducible_and_instances apply unop_not); (· rfl))
    | ((with_reducible refine ⟨z.grw.lay _ _, ?_⟩); (intro _ h' zz x _); (try simp only [lay_lay, List.append_nil] at x); (try replace q0 := q0.over x); (replace z := zz); (clear zz); rw [lay_nil h'])) <;> simp -implicitDefEqProofs only [syms, symx, Nat.reduceAdd, Nat.reduceMul, Int.reduceLT, Int.reduceLE, Int.reduceAdd, Int.reduceSub, Int.reduceToNat, Int.reduceNeg, reduceIte, Nat.reduceGT, Nat.reduceLT, Nat.reduceLeDiff, code146_0, code146_1, code146_2, ty146, e1])
  have hhm : i ≤ (i + j) / 2 ∧ (i + j) / 2 < j := by omega
  have hwh : IntKind.i64.wrap ((((i + j) / 2 : Nat) : Int) + 1) = (((i + j) / 2 + 1 : Nat) : Int) := by rw [wrap_i64 (by omega) (by omega)]; omega
  generalize (i + j) / 2 = y at hhm hwh ⊢
  have hr : l[(y : Int).toNat]? = some (l.getD y noAtomD) := getD_at (by omega)
  refine D146_19 (z.upW _ _ (by omega)) ?_
  simp -implicitDefEqProofs only [syms, symx, Nat.reduceAdd, Nat.reduceMul, Int.reduceLT, Int.reduceLE, Int.reduceAdd, Int.reduceSub, Int.reduceToNat, Int.reduceNeg, reduceIte, Nat.reduceGT, Nat.reduceLT, Nat.reduceLeDiff, code146_0, code146_1, code146_2, ty146]
  repeat' ((first
    | ((with_reducible first | apply forkD | apply forkB | apply forkN | apply forkNP | apply forkNot) <;> intro _)
    | with_reducible_and_instances refine ixa_at (hl.mono z.inc) ds23 sz39 (by omega) hr (fun p hp => ?_)
    | with_reducible_and_instances refine lda hp ag39 sz39 ?_
    | ((with_reducible_and_instances apply unop_not); (· rfl))
    | ((with_reducible refine ⟨z.grw.lay _ _, ?_⟩); (intro _ h' zz x _); (try simp only [lay_lay, List.append_nil] at x); (try replace q0 := q0.over x); (replace z := zz); (clear zz); rw [lay_nil h'])) <;> simp -implicitDefEqProofs only [syms, symx, Nat.reduceAdd, Nat.reduceMul, Int.reduceLT, Int.reduceLE, Int.reduceAdd, Int.reduceSub, Int.reduceToNat, Int.reduceNeg, reduceIte, Nat.reduceGT, Nat.reduceLT, Nat.reduceLeDiff, code146_0, code146_1, code146_2, ty146, q0.lay, cells_atom, ↓cut_atom, agg_atom, valE_atom])
  refine ok_cmp _ _ (light_getD hlt (by omega)) ha _ _ (fun h' x => ?_)
  ((first | ((with_reducible refine KOpsX_call ?_ ?_ ?_); (· exact (by (try simp only [lay_size, List.length_cons, List.length_nil]); have := z.size; omega)); (· first | exact x | simpa only [lay_lay, lay_size, List.append_nil, List.length_cons, List.length_nil, Nat.add_zero] using x)) | skip); replace z := z.overW x (by (try simp only [lay_size, List.length_cons, List.length_nil]); omega); (try replace q0 := q0.over x); rw [lay_nil h'])
  simp -implicitDefEqProofs only [syms, symx, Nat.reduceAdd, Nat.reduceMul, Int.reduceLT, Int.reduceLE, Int.reduceAdd, Int.reduceSub, Int.reduceToNat, Int.reduceNeg, reduceIte, Nat.reduceGT, Nat.reduceLT, Nat.reduceLeDiff, code146_0, code146_1, code146_2, ty146]
  refine forkD (fun hc => ?_) (fun hc => ?_)
  · simp -implicitDefEqProofs only [syms, symx, Nat.reduceAdd, Nat.reduceMul, Int.reduceLT, Int.reduceLE, Int.reduceAdd, Int.reduceSub, Int.reduceToNat, Int.reduceNeg, reduceIte, Nat.reduceGT, Nat.reduceLT, Nat.reduceLeDiff, code146_0, code146_1, code146_2, ty146]
    repeat' ((first
      | ((with_reducible first | apply forkD | apply forkB | apply forkN | apply forkNP | apply forkNot) <;> intro _)
      | with_reducible_and_instances refine ixa_at (hl.mono z.inc) ds23 sz39 (by omega) hr (fun p hp => ?_)
      | with_reducible_and_instances refine lda hp ag39 sz39 ?_
      | ((with_reducible_and_instances apply unop_not); (· rfl))
      | ((with_reducible refine ⟨z.grw.lay _ _, ?_⟩); (intro _ h' zz x _); (try simp only [lay_lay, List.append_nil] at x); (try replace q0 := q0.over x); (replace z := zz); (clear zz); rw [lay_nil h'])) <;> simp -implicitDefEqProofs only [syms, symx, Nat.reduceAdd, Nat.reduceMul, Int.reduceLT, Int.reduceLE, Int.reduceAdd, Int.reduceSub, Int.reduceToNat, Int.reduceNeg, reduceIte, Nat.reduceGT, Nat.reduceLT, Nat.reduceLeDiff, code146_0, code146_1, code146_2, ty146])
    rw [hwh]
    (rw [hI1]; with_reducible refine loopN_normal (m := _) ?_ ⟨y + 1, j, _, rfl, z, ⟨rfl, by omega, by omega, fun k g => by
      rcases Nat.lt_or_ge k y with e | e
      · exact cmpD_lt_trans (asc_le (asc_iff.1 hs) e (by omega)) hc
      · have e : k = y := by omega
        subst e
        exact hc, hhi, q0⟩, junk (by kernel_rfl)⟩; omega)
  · have hhi2 : ∀ k, y ≤ k → k < l.length → ¬ cmpD (l.getD k noAtomD) a < 0 := by
      intro k g1 g2
      rcases Nat.eq_or_lt_of_le g1 with e | e
      · subst e
        exact hc
      · intro g
        exact hc (cmpD_lt_trans (asc_le (asc_iff.1 hs) e g2) g)
    simp -implicitDefEqProofs only [syms, symx, Nat.reduceAdd, Nat.reduceMul, Int.reduceLT, Int.reduceLE, Int.reduceAdd, Int.reduceSub, Int.reduceToNat, Int.reduceNeg, reduceIte, Nat.reduceGT, Nat.reduceLT, Nat.reduceLeDiff, code146_0, code146_1, code146_2, ty146]
    repeat' ((first
      | ((with_reducible first | apply forkD | apply forkB | apply forkN | apply forkNP | apply forkNot) <;> intro _)
      | with_reducible_and_instances refine ixa_at (hl.mono z.inc) ds23 sz39 (by omega) hr (fun p hp => ?_)
      | with_reducible_and_instances refine lda hp ag39 sz39 ?_
      | ((with_reducible_and_instances apply unop_not); (· rfl))
      | ((with_reducible refine ⟨z.grw.lay _ _, ?_⟩); (intro _ h' zz x _); (try simp only [lay_lay, List.append_nil] at x); (try replace q0 := q0.over x); (replace z := zz); (clear zz); rw [lay_nil h'])) <;> simp -implicitDefEqProofs only [syms, symx, Nat.reduceAdd, Nat.reduceMul, Int.reduceLT, Int.reduceLE, Int.reduceAdd, Int.reduceSub, Int.reduceToNat, Int.reduceNeg, reduceIte, Nat.reduceGT, Nat.reduceLT, Nat.reduceLeDiff, code146_0, code146_1, code146_2, ty146])
    (rw [hI1]; with_reducible refine loopN_normal (m := _) ?_ ⟨i, y, _, rfl, z, ⟨rfl, by omega, by omega, hlo, hhi2, q0⟩, junk (by kernel_rfl)⟩; omega)
theorem ok_place (l : List AtomD) (a : AtomD) (v : Value) (h : Heap) (hl : Sl Rep.atom h v l) (hs : AscD l) (hn : l.length ≤ 1000) (hlt : ∀ x ∈ l, x.light = true) (ha : a.light = true) (K : Value → Heap → Prop)
    (hk : ∀ h' i, Ext h h' → AmPlace l a i → K (.tuple #[.int .i64 (i : Nat), .bool (hasA l a)]) h') : Ok Try.prog tab ov 96 [v, a.val] h K := by
  rw [lay_nil h]
  have z := Ext.refl h
  refine Ok.into rfl tab_fn96 body96 rfl (m := 9) rfl ?_
  simp -implicitDefEqProofs only [syms, symx, Nat.reduceAdd, Nat.reduceMul, Int.reduceLT, Int.reduceLE, Int.reduceAdd, Int.reduceSub, Int.reduceToNat, Int.reduceNeg, reduceIte, Nat.reduceGT, Nat.reduceLT, Nat.reduceLeDiff, code96_0, ty96, cells_atom, ↓cut_atom, agg_atom, valE_atom]
  repeat' ((first
    | ((with_reducible first | apply forkD | apply forkB | apply forkN | apply forkNP | apply forkNot) <;> intro _)
    | with_reducible_and_instances refine ixa_at (hl.mono z.inc) ds23 sz39 (by omega) hr (fun p hp => ?_)
    | with_reducible_and_instances refine lda hp ag39 sz39 ?_
    | ((with_reducible_and_instances apply unop_not); (· rfl))) <;> simp -implicitDefEqProofs only [syms, symx, Nat.reduceAdd, Nat.reduceMul, Int.reduceLT, Int.reduceLE, Int.reduceAdd, Int.reduceSub, Int.reduceToNat, Int.reduceNeg, reduceIte, Nat.reduceGT, Nat.reduceLT, Nat.reduceLeDiff, code96_0, ty96, cells_atom, ↓cut_atom, agg_atom, valE_atom])
  refine ok_binSearch l a v _ (hl.lay _ _) hs hn hlt ha _ (fun h' i x hp => ?_)
  ((skip); replace z := z.overW x (by (try simp only [lay_size, List.length_cons, List.length_nil]); omega); (try replace q0 := q0.over x); rw [lay_nil h'])
  generalize hasA l a = b at hk ⊢
  cases b
  all_goals
    simp -implicitDefEqProofs only [syms, symx, Nat.reduceAdd, Nat.reduceMul, Int.reduceLT, Int.reduceLE, Int.reduceAdd, Int.reduceSub, Int.reduceToNat, Int.reduceNeg, reduceIte, Nat.reduceGT, Nat.reduceLT, Nat.reduceLeDiff, code96_0, ty96]
    repeat' ((first
      | ((with_reducible first | apply forkD | apply forkB | apply forkN | apply forkNP | apply forkNot) <;> intro _)
      | with_reducible_and_instances refine ixa_at (hl.mono z.inc) ds23 sz39 (by omega) hr (fun p hp => ?_)
      | with_reducible_and_instances refine lda hp ag39 sz39 ?_
      | ((with_reducible_and_instances apply unop_not); (· rfl))) <;> simp -implicitDefEqProofs only [syms, symx, Nat.reduceAdd, Nat.reduceMul, Int.reduceLT, Int.reduceLE, Int.reduceAdd, Int.reduceSub, Int.reduceToNat, Int.reduceNeg, reduceIte, Nat.reduceGT, Nat.reduceLT, Nat.reduceLeDiff, code96_0, ty96])
    exact hk _ _ (z.upW _ _ (by omega)) hp
theorem ok_has (l : List AtomD) (a : AtomD) (v : Value) (h : Heap) (hl : Sl Rep.atom h v l) (hn : l.length ≤ 900) (hlt : ∀ x ∈ l, x.light = true) (ha : a.light = true) (K : Value → Heap → Prop)
    (hk : ∀ h', Ext h h' → K (.bool (hasA l a)) h') : Ok Try.prog tab ov 35 [v, a.val] h K := by
  rw [lay_nil h]
  have z := Ext.refl h
  refine Ok.into rfl tab_fn35 body35 rfl (m := 13) rfl ?_
  simp -implicitDefEqProofs only [syms, symx, Nat.reduceAdd, Nat.reduceMul, Int.reduceLT, Int.reduceLE, Int.reduceAdd, Int.reduceSub, Int.reduceToNat, Int.reduceNeg, reduceIte, Nat.reduceGT, Nat.reduceLT, Nat.reduceLeDiff, code35_0, ty35, cells_atom]
  refine W_fold (fun h' x hq => ?_)
  have q0 := hq 0 _ rfl
  clear hq
  (replace z := z.overW x (by (try simp only [lay_size, List.length_cons, List.length_nil]); omega); (try replace q0 := q0.over x); rw [lay_nil h'])
  refine D35_3 (z.upW _ _ (by omega)) ?_
  simp -implicitDefEqProofs only [syms, symx, Nat.reduceAdd, Nat.reduceMul, Int.reduceLT, Int.reduceLE, Int.reduceAdd, Int.reduceSub, Int.reduceToNat, Int.reduceNeg, reduceIte, Nat.reduceGT, Nat.reduceLT, Nat.reduceLeDiff, code35_0, ty35]
  refine ok_made l v _ ((hl.mono z.inc).lay _ _) hn hlt _ (fun h' w x ho => ?_)
  ((first | ((with_reducible refine KOpsX_call ?_ ?_ ?_); (· exact (by (try simp only [lay_size, List.length_cons, List.length_nil]); have := z.size; omega)); (· first | exact x | simpa only [lay_lay, lay_size, List.append_nil, List.length_cons, List.length_nil, Nat.add_zero] using x)) | skip); replace z := z.overW x (by (try simp only [lay_size, List.length_cons, List.length_nil]); omega); (try replace q0 := q0.over x); rw [lay_nil h'])
  have hva : ∀ (h : Heap) (K : Value → Heap → Prop), valE (some w) h K = K w h := fun _ _ => rfl
  simp -implicitDefEqProofs only [syms, symx, Nat.reduceAdd, Nat.reduceMul, Int.reduceLT, Int.reduceLE, Int.reduceAdd, Int.reduceSub, Int.reduceToNat, Int.reduceNeg, reduceIte, Nat.reduceGT, Nat.reduceLT, Nat.reduceLeDiff, code35_0, ty35, hva, q0.lay, cells_atom, ↓cut_atom, agg_atom, valE_atom]
  repeat' ((first
    | ((with_reducible first | apply forkD | apply forkB | apply forkN | apply forkNP | apply forkNot) <;> intro _)
    | with_reducible_and_instances refine ixa_at (hl.mono z.inc) ds23 sz39 (by omega) hr (fun p hp => ?_)
    | with_reducible_and_instances refine lda hp ag39 sz39 ?_
    | ((with_reducible_and_instances apply unop_not); (· rfl))
    | ((with_reducible refine ⟨z.grw.lay _ _, ?_⟩); (intro _ h' zz x _); (try simp only [lay_lay, List.append_nil] at x); (try replace q0 := q0.over x); (replace z := zz); (clear zz); rw [lay_nil h'])) <;> simp -implicitDefEqProofs only [syms, symx, Nat.reduceAdd, Nat.reduceMul, Int.reduceLT, Int.reduceLE, Int.reduceAdd, Int.reduceSub, Int.reduceToNat, Int.reduceNeg, reduceIte, Nat.reduceGT, Nat.reduceLT, Nat.reduceLeDiff, code35_0, ty35, hva, q0.lay, cells_atom, ↓cut_atom, agg_atom, valE_atom])
  refine ok_place (sortA l) a w _ (ho.sl.lay _ _) (sortA_of l).asc (by have := sortA_length l; omega) (sortA_light hlt) ha _ (fun h' i x hp => ?_)
  rw [hasA_sort]
  ((first | ((with_reducible refine KOpsX_call ?_ ?_ ?_); (· exact (by (try simp only [lay_size, List.length_cons, List.length_nil]); have := z.size; omega)); (· first | exact x | simpa only [lay_lay, lay_size, List.append_nil, List.length_cons, List.length_nil, Nat.add_zero] using x)) | skip); replace z := z.overW x (by (try simp only [lay_size, List.length_cons, List.length_nil]); omega); (try replace q0 := q0.over x); rw [lay_nil h'])
  generalize hasA l a = b at hk ⊢
  cases b
  all_goals
    simp -implicitDefEqProofs only [syms, symx, Nat.reduceAdd, Nat.reduceMul, Int.reduceLT, Int.reduceLE, Int.reduceAdd, Int.reduceSub, Int.reduceToNat, Int.reduceNeg, reduceIte, Nat.reduceGT, Nat.reduceLT, Nat.reduceLeDiff, code35_0, ty35]
    repeat' ((first
      | ((with_reducible first | apply forkD | apply forkB | apply forkN | apply forkNP | apply forkNot) <;> intro _)
      | with_reducible_and_instances refine ixa_at (hl.mono z.inc) ds23 sz39 (by omega) hr (fun p hp => ?_)
      | with_reducible_and_instances refine lda hp ag39 sz39 ?_
      | ((with_reducible_and_instances apply unop_not); (· rfl))
      | ((with_reducible refine ⟨z.grw.lay _ _, ?_⟩); (intro _ h' zz x _); (try simp only [lay_lay, List.append_nil] at x); (try replace q0 := q0.over x); (replace z := zz); (clear zz); rw [lay_nil h'])) <;> simp -implicitDefEqProofs only [syms, symx, Nat.reduceAdd, Nat.reduceMul, Int.reduceLT, Int.reduceLE, Int.reduceAdd, Int.reduceSub, Int.reduceToNat, Int.reduceNeg, reduceIte, Nat.reduceGT, Nat.reduceLT, Nat.reduceLeDiff, code35_0, ty35])
    exact hk _ (z.upW _ _ (by omega))
end Go.Proofs.Ytompindebndddaa
