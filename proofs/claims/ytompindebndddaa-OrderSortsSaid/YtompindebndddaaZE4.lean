/- Walks: sorting a list of atoms Written out by fill2.py. No condition. -/
import Derived.Test.YtompindebndddaaG30
import Derived.Test.YtompindebndddaaGSort3
namespace Go.Proofs.Ytompindebndddaa
open Go.Am
set_option linter.unusedSimpArgs false
set_option linter.unusedVariables false
set_option maxRecDepth 100000
set_option maxHeartbeats 0
theorem symOk : ∀ sz, SymOk sz
  | 0 => by intro l A c a m b h hs z hA q h1 h2 h3; omega
  | sz + 1 => ok_symStep sz (symOk sz)
theorem ok_stable (l : List AtomD) (A c : Nat) (h hs : Heap) (z : Ext h hs) (hA : h.size ≤ A) (q : Holds hs A (.row (rowA l) 39 false)) (hn : l.length ≤ 900) (hlt : ∀ x ∈ l, x.light = true) (K : Value → Heap → Prop)
    (hk : ∀ h' l', Ext h h' → Holds h' A (.row (rowA l') 39 false) → l'.Perm l → Stab l l' → SortedR l' 0 l.length → K undef h') : Ok Try.prog tab ov 145 [.slice (some ⟨A, 0, none⟩) l.length c, .int .i64 l.length, .func (.func 43) ⟨[]⟩ ⟨[]⟩] hs K := by
  rw [lay_nil hs]
  refine Ok.into rfl tab_fn145 body145 rfl (m := 60) rfl ?_
  simp -implicitDefEqProofs only [syms, symx, Nat.reduceAdd, Nat.reduceMul, Int.reduceLT, Int.reduceLE, Int.reduceAdd, Int.reduceSub, Int.reduceToNat, Int.reduceNeg, reduceIte, Nat.reduceGT, Nat.reduceLT, Nat.reduceLeDiff, code145_0, code145_1, code145_2, code145_3, ty145]
  obtain ⟨I1, hI1⟩ : ∃ I : Nat → Env → Heap → Prop, I = (fun n e h' => ∃ (a : Nat) (l1 : List AtomD) (h1 : Heap), h' = h1.lay [] h1.low ∧ Ext h h1 ∧ (n = l.length - a ∧ a % 20 = 0 ∧ a ≤ l.length ∧ l1.Perm l ∧ Stab l l1 ∧ Bl l1 20 l.length a ∧ Holds h1 A (.row (rowA l1) 39 false)) ∧ ∃ J : Nat → Value, e = (.slice (some ⟨A, 0, none⟩) l.length c :: .int .i64 l.length :: .func (.func 43) ⟨[]⟩ ⟨[]⟩ :: J 3 :: J 4 :: J 5 :: .int .i64 20 :: .int .i64 a :: .int .i64 (a + 20 : Nat) :: J 9 :: J 10 :: J 11 :: J 12 :: J 13 :: J 14 :: J 15 :: J 16 :: J 17 :: J 18 :: J 19 :: J 20 :: J 21 :: J 22 :: J 23 :: J 24 :: J 25 :: J 26 :: J 27 :: J 28 :: J 29 :: J 30 :: J 31 :: J 32 :: J 33 :: J 34 :: J 35 :: J 36 :: J 37 :: J 38 :: J 39 :: J 40 :: J 41 :: J 42 :: J 43 :: J 44 :: J 45 :: J 46 :: J 47 :: J 48 :: J 49 :: J 50 :: J 51 :: J 52 :: J 53 :: J 54 :: J 55 :: J 56 :: J 57 :: J 58 :: J 59 :: J 60 :: J 61 :: J 62 :: [])) := ⟨_, rfl⟩
  refine W_loopN I1 _ (by rw [hI1]; exact ⟨0, l, _, rfl, z, ⟨rfl, by omega, by omega, List.Perm.refl _, Stab.refl _, fun k _ hk => absurd hk (by omega), q⟩, junk (by kernel_rfl)⟩) ?_
  intro n e h' hin
  rw [hI1] at hin
  obtain ⟨a, l1, h1', rfl, z, hinv, J, rfl⟩ := hin
  clear q
  obtain ⟨rfl, ha20, han, hp, hst, hbl, q⟩ := hinv
  have hl1 := hp.length_eq
  have hlt1 := light_perm hlt hp
  simp -implicitDefEqProofs only [syms, symx, Nat.reduceAdd, Nat.reduceMul, Int.reduceLT, Int.reduceLE, Int.reduceAdd, Int.reduceSub, Int.reduceToNat, Int.reduceNeg, reduceIte, Nat.reduceGT, Nat.reduceLT, Nat.reduceLeDiff, code145_0, code145_1, code145_2, code145_3, ty145]
  refine forkD (fun hle => ?_) (fun hle => ?_)
  · have hw1 : IntKind.i64.wrap (((a + 20 : Nat) : Int) + 20) = ((a + 20 + 20 : Nat) : Int) := by rw [wrap_i64 (by omega) (by omega)]; omega
    simp -implicitDefEqProofs only [syms, symx, Nat.reduceAdd, Nat.reduceMul, Int.reduceLT, Int.reduceLE, Int.reduceAdd, Int.reduceSub, Int.reduceToNat, Int.reduceNeg, reduceIte, Nat.reduceGT, Nat.reduceLT, Nat.reduceLeDiff, code145_0, code145_1, code145_2, code145_3, ty145]
    repeat' ((first
      | ((with_reducible first | apply forkD | apply forkB | apply forkN | apply forkNP | apply forkNot) <;> intro _)
      | ((with_reducible_and_instances apply unop_not); (· rfl))) <;> simp -implicitDefEqProofs only [syms, symx, Nat.reduceAdd, Nat.reduceMul, Int.reduceLT, Int.reduceLE, Int.reduceAdd, Int.reduceSub, Int.reduceToNat, Int.reduceNeg, reduceIte, Nat.reduceGT, Nat.reduceLT, Nat.reduceLeDiff, code145_0, code145_1, code145_2, code145_3, ty145])
    have key := fun K hk => ok_insertion l1 A c a (a + 20) h (h1'.lay [] h1'.low) (z.upW _ _ (by omega)) hA (q.on _ _) (by omega) (by omega) (by omega) hlt1 K hk
    simp only [hl1] at key
    refine key _ (fun h' l' x q' hp' hst' hs' ho' => ?_)
    replace z := x
    rw [lay_nil h']
    simp -implicitDefEqProofs only [syms, symx, Nat.reduceAdd, Nat.reduceMul, Int.reduceLT, Int.reduceLE, Int.reduceAdd, Int.reduceSub, Int.reduceToNat, Int.reduceNeg, reduceIte, Nat.reduceGT, Nat.reduceLT, Nat.reduceLeDiff, code145_0, code145_1, code145_2, code145_3, ty145, hw1]
    repeat' ((first
      | ((with_reducible first | apply forkD | apply forkB | apply forkN | apply forkNP | apply forkNot) <;> intro _)
      | ((with_reducible_and_instances apply unop_not); (· rfl))) <;> simp -implicitDefEqProofs only [syms, symx, Nat.reduceAdd, Nat.reduceMul, Int.reduceLT, Int.reduceLE, Int.reduceAdd, Int.reduceSub, Int.reduceToNat, Int.reduceNeg, reduceIte, Nat.reduceGT, Nat.reduceLT, Nat.reduceLeDiff, code145_0, code145_1, code145_2, code145_3, ty145, hw1])
    (rw [hI1]; with_reducible refine loopN_normal (m := _) ?_ ⟨a + 20, l', _, rfl, z, ⟨rfl, by omega, by omega, hp'.trans hp, hst.trans hst', bl_step hbl ha20 (by rw [show min (a + 20) l.length = a + 20 by omega]; exact hs') (by rw [show min (a + 20) l.length = a + 20 by omega]; exact ho') _ (by omega), q'⟩, junk (by kernel_rfl)⟩; omega)
  simp -implicitDefEqProofs only [syms, symx, Nat.reduceAdd, Nat.reduceMul, Int.reduceLT, Int.reduceLE, Int.reduceAdd, Int.reduceSub, Int.reduceToNat, Int.reduceNeg, reduceIte, Nat.reduceGT, Nat.reduceLT, Nat.reduceLeDiff, code145_0, code145_1, code145_2, code145_3, ty145]
  repeat' ((first
    | ((with_reducible first | apply forkD | apply forkB | apply forkN | apply forkNP | apply forkNot) <;> intro _)
    | ((with_reducible_and_instances apply unop_not); (· rfl))) <;> simp -implicitDefEqProofs only [syms, symx, Nat.reduceAdd, Nat.reduceMul, Int.reduceLT, Int.reduceLE, Int.reduceAdd, Int.reduceSub, Int.reduceToNat, Int.reduceNeg, reduceIte, Nat.reduceGT, Nat.reduceLT, Nat.reduceLeDiff, code145_0, code145_1, code145_2, code145_3, ty145])
  have key := fun K hk => ok_insertion l1 A c a l.length h (h1'.lay [] h1'.low) (z.upW _ _ (by omega)) hA (q.on _ _) (by omega) (by omega) (by omega) hlt1 K hk
  simp only [hl1] at key
  refine key _ (fun h' l' x q' hp' hst' hs' ho' => ?_)
  replace z := x
  replace hp := hp'.trans hp
  replace hst := hst.trans hst'
  replace hbl : Bl l' 20 l.length l.length := bl_step hbl ha20 (by rw [show min (a + 20) l.length = l.length by omega]; exact hs') (by rw [show min (a + 20) l.length = l.length by omega]; exact ho') _ (by omega)
  clear key hs' ho' hp' hst' hl1 hlt1 q
  rw [lay_nil h']
  simp -implicitDefEqProofs only [syms, symx, Nat.reduceAdd, Nat.reduceMul, Int.reduceLT, Int.reduceLE, Int.reduceAdd, Int.reduceSub, Int.reduceToNat, Int.reduceNeg, reduceIte, Nat.reduceGT, Nat.reduceLT, Nat.reduceLeDiff, code145_0, code145_1, code145_2, code145_3, ty145]
  repeat' ((first
    | ((with_reducible first | apply forkD | apply forkB | apply forkN | apply forkNP | apply forkNot) <;> intro _)
    | ((with_reducible_and_instances apply unop_not); (· rfl))) <;> simp -implicitDefEqProofs only [syms, symx, Nat.reduceAdd, Nat.reduceMul, Int.reduceLT, Int.reduceLE, Int.reduceAdd, Int.reduceSub, Int.reduceToNat, Int.reduceNeg, reduceIte, Nat.reduceGT, Nat.reduceLT, Nat.reduceLeDiff, code145_0, code145_1, code145_2, code145_3, ty145])
  obtain ⟨I2, hI2⟩ : ∃ I : Nat → Env → Heap → Prop, I = (fun n e h' => ∃ (w : Nat) (l1 : List AtomD) (h1 : Heap), h' = h1.lay [] h1.low ∧ Ext h h1 ∧ (n = l.length - w ∧ 20 ≤ w ∧ w ≤ 2000 ∧ l1.Perm l ∧ Stab l l1 ∧ Bl l1 w l.length l.length ∧ Holds h1 A (.row (rowA l1) 39 false)) ∧ ∃ J : Nat → Value, e = (.slice (some ⟨A, 0, none⟩) l.length c :: .int .i64 l.length :: .func (.func 43) ⟨[]⟩ ⟨[]⟩ :: J 3 :: J 4 :: J 5 :: .int .i64 w :: J 7 :: J 8 :: J 9 :: J 10 :: J 11 :: J 12 :: J 13 :: J 14 :: J 15 :: J 16 :: J 17 :: J 18 :: J 19 :: J 20 :: J 21 :: J 22 :: J 23 :: J 24 :: J 25 :: J 26 :: J 27 :: J 28 :: J 29 :: J 30 :: J 31 :: J 32 :: J 33 :: J 34 :: J 35 :: J 36 :: J 37 :: J 38 :: J 39 :: J 40 :: J 41 :: J 42 :: J 43 :: J 44 :: J 45 :: J 46 :: J 47 :: J 48 :: J 49 :: J 50 :: J 51 :: J 52 :: J 53 :: J 54 :: J 55 :: J 56 :: J 57 :: J 58 :: J 59 :: J 60 :: J 61 :: J 62 :: [])) := ⟨_, rfl⟩
  refine W_loopN I2 _ (by rw [hI2]; exact ⟨20, l', _, rfl, z, ⟨rfl, by omega, by omega, hp, hst, hbl, q'⟩, junk (by kernel_rfl)⟩) ?_
  intro n e h' hin
  rw [hI2] at hin
  obtain ⟨w, l1, h2', rfl, z, hinv, J, rfl⟩ := hin
  clear q' hbl hp hst
  obtain ⟨rfl, hw20, hw2k, hp, hst, hbl, q⟩ := hinv
  simp -implicitDefEqProofs only [syms, symx, Nat.reduceAdd, Nat.reduceMul, Int.reduceLT, Int.reduceLE, Int.reduceAdd, Int.reduceSub, Int.reduceToNat, Int.reduceNeg, reduceIte, Nat.reduceGT, Nat.reduceLT, Nat.reduceLeDiff, code145_0, code145_1, code145_2, code145_3, ty145]
  refine forkD (fun hlt2 => ?_) (fun hlt2 => ?_)
  rotate_left
  · simp -implicitDefEqProofs only [syms, symx, Nat.reduceAdd, Nat.reduceMul, Int.reduceLT, Int.reduceLE, Int.reduceAdd, Int.reduceSub, Int.reduceToNat, Int.reduceNeg, reduceIte, Nat.reduceGT, Nat.reduceLT, Nat.reduceLeDiff, code145_0, code145_1, code145_2, code145_3, ty145]
    repeat' ((first
      | ((with_reducible first | apply forkD | apply forkB | apply forkN | apply forkNP | apply forkNot) <;> intro _)
      | ((with_reducible_and_instances apply unop_not); (· rfl))) <;> simp -implicitDefEqProofs only [syms, symx, Nat.reduceAdd, Nat.reduceMul, Int.reduceLT, Int.reduceLE, Int.reduceAdd, Int.reduceSub, Int.reduceToNat, Int.reduceNeg, reduceIte, Nat.reduceGT, Nat.reduceLT, Nat.reduceLeDiff, code145_0, code145_1, code145_2, code145_3, ty145])
    exact hk _ _ (z.upW _ _ (by omega)) (q.on _ _) hp hst (bl_end hbl (by omega))
  have hm2 : IntKind.i64.wrap ((2 : Int) * (w : Int)) = ((2 * w : Nat) : Int) := by rw [wrap_i64 (by omega) (by omega)]; omega
  simp -implicitDefEqProofs only [syms, symx, Nat.reduceAdd, Nat.reduceMul, Int.reduceLT, Int.reduceLE, Int.reduceAdd, Int.reduceSub, Int.reduceToNat, Int.reduceNeg, reduceIte, Nat.reduceGT, Nat.reduceLT, Nat.reduceLeDiff, code145_0, code145_1, code145_2, code145_3, ty145, hm2, bin_mul]
  repeat' ((first
    | ((with_reducible first | apply forkD | apply forkB | apply forkN | apply forkNP | apply forkNot) <;> intro _)
    | ((with_reducible_and_instances apply unop_not); (· rfl))) <;> simp -implicitDefEqProofs only [syms, symx, Nat.reduceAdd, Nat.reduceMul, Int.reduceLT, Int.reduceLE, Int.reduceAdd, Int.reduceSub, Int.reduceToNat, Int.reduceNeg, reduceIte, Nat.reduceGT, Nat.reduceLT, Nat.reduceLeDiff, code145_0, code145_1, code145_2, code145_3, ty145, hm2, bin_mul])
  obtain ⟨I3, hI3⟩ : ∃ I : Nat → Env → Heap → Prop, I = (fun n e h' => ∃ (a b : Nat) (l2 : List AtomD) (h1 : Heap), h' = h1.lay [] h1.low ∧ Ext h h1 ∧ (n = l.length - a ∧ b = a + 2 * w ∧ a % (2 * w) = 0 ∧ a ≤ l.length ∧ l2.Perm l ∧ Stab l l2 ∧ Dbl l2 w l.length a ∧ Holds h1 A (.row (rowA l2) 39 false)) ∧ ∃ J : Nat → Value, e = (.slice (some ⟨A, 0, none⟩) l.length c :: .int .i64 l.length :: .func (.func 43) ⟨[]⟩ ⟨[]⟩ :: J 3 :: J 4 :: J 5 :: .int .i64 w :: .int .i64 a :: .int .i64 b :: J 9 :: J 10 :: J 11 :: J 12 :: J 13 :: J 14 :: J 15 :: J 16 :: J 17 :: J 18 :: J 19 :: J 20 :: J 21 :: J 22 :: J 23 :: J 24 :: J 25 :: J 26 :: J 27 :: J 28 :: J 29 :: J 30 :: J 31 :: J 32 :: J 33 :: J 34 :: J 35 :: J 36 :: J 37 :: J 38 :: J 39 :: J 40 :: J 41 :: J 42 :: J 43 :: J 44 :: J 45 :: J 46 :: J 47 :: J 48 :: J 49 :: J 50 :: J 51 :: J 52 :: J 53 :: J 54 :: J 55 :: J 56 :: J 57 :: J 58 :: J 59 :: J 60 :: J 61 :: J 62 :: [])) := ⟨_, rfl⟩
  refine W_loopN I3 _ (by rw [hI3]; exact ⟨0, 2 * w, l1, _, rfl, z, ⟨rfl, by omega, Nat.zero_mod _, by omega, hp, hst, dbl_start hbl, q⟩, junk (by kernel_rfl)⟩) ?_
  intro n e h' hin
  rw [hI3] at hin
  obtain ⟨a, b, l2, h3', rfl, z, hinv, J, rfl⟩ := hin
  clear q hbl hp hst
  obtain ⟨rfl, hb, hamod, han, hp, hst, hdb, q⟩ := hinv
  have hl2 := hp.length_eq
  have hlt3 := light_perm hlt hp
  have haw : IntKind.i64.wrap ((a : Int) + (w : Int)) = ((a + w : Nat) : Int) := by rw [wrap_i64 (by omega) (by omega)]; omega
  simp -implicitDefEqProofs only [syms, symx, Nat.reduceAdd, Nat.reduceMul, Int.reduceLT, Int.reduceLE, Int.reduceAdd, Int.reduceSub, Int.reduceToNat, Int.reduceNeg, reduceIte, Nat.reduceGT, Nat.reduceLT, Nat.reduceLeDiff, code145_0, code145_1, code145_2, code145_3, ty145]
  refine forkD (fun hle => ?_) (fun hle => ?_)
  · have hbw : IntKind.i64.wrap ((b : Int) + ((2 * w : Nat) : Int)) = ((b + 2 * w : Nat) : Int) := by rw [wrap_i64 (by omega) (by omega)]; omega
    have hpa := dbl_parts hdb (by omega) hamod (by omega)
    rw [show min (a + 2 * w) l.length = b by omega] at hpa
    simp -implicitDefEqProofs only [syms, symx, Nat.reduceAdd, Nat.reduceMul, Int.reduceLT, Int.reduceLE, Int.reduceAdd, Int.reduceSub, Int.reduceToNat, Int.reduceNeg, reduceIte, Nat.reduceGT, Nat.reduceLT, Nat.reduceLeDiff, code145_0, code145_1, code145_2, code145_3, ty145, haw]
    repeat' ((first
      | ((with_reducible first | apply forkD | apply forkB | apply forkN | apply forkNP | apply forkNot) <;> intro _)
      | ((with_reducible_and_instances apply unop_not); (· rfl))) <;> simp -implicitDefEqProofs only [syms, symx, Nat.reduceAdd, Nat.reduceMul, Int.reduceLT, Int.reduceLE, Int.reduceAdd, Int.reduceSub, Int.reduceToNat, Int.reduceNeg, reduceIte, Nat.reduceGT, Nat.reduceLT, Nat.reduceLeDiff, code145_0, code145_1, code145_2, code145_3, ty145, haw])
    have key := fun K hk => symOk l.length l2 A c a (a + w) b h (h3'.lay [] h3'.low) (z.upW _ _ (by omega)) hA (q.on _ _) (by omega) (by omega) (by omega) (by omega) (by omega) hlt3 hpa.1 hpa.2 K hk
    simp only [hl2] at key
    refine key _ (fun h' l' x q' hm' hs' => ?_)
    replace z := x
    rw [lay_nil h']
    simp -implicitDefEqProofs only [syms, symx, Nat.reduceAdd, Nat.reduceMul, Int.reduceLT, Int.reduceLE, Int.reduceAdd, Int.reduceSub, Int.reduceToNat, Int.reduceNeg, reduceIte, Nat.reduceGT, Nat.reduceLT, Nat.reduceLeDiff, code145_0, code145_1, code145_2, code145_3, ty145, hm2, bin_mul, hbw]
    repeat' ((first
      | ((with_reducible first | apply forkD | apply forkB | apply forkN | apply forkNP | apply forkNot) <;> intro _)
      | ((with_reducible_and_instances apply unop_not); (· rfl))) <;> simp -implicitDefEqProofs only [syms, symx, Nat.reduceAdd, Nat.reduceMul, Int.reduceLT, Int.reduceLE, Int.reduceAdd, Int.reduceSub, Int.reduceToNat, Int.reduceNeg, reduceIte, Nat.reduceGT, Nat.reduceLT, Nat.reduceLeDiff, code145_0, code145_1, code145_2, code145_3, ty145, hm2, bin_mul, hbw])
    have hstep := dbl_step (l' := l') hdb (by omega) hamod (by rw [show min (a + 2 * w) l.length = b by omega]; exact hs') (by rw [show min (a + 2 * w) l.length = b by omega]; exact hm')
    rw [show min (a + 2 * w) l.length = b by omega] at hstep
    (rw [hI3]; with_reducible refine loopN_normal (m := _) ?_ ⟨b, b + 2 * w, l', _, rfl, z, ⟨rfl, by omega, by rw [hb, Nat.add_mod_right]; exact hamod, by omega, hm'.perm.trans hp, hst.trans hm'.stab, hstep, q'⟩, junk (by kernel_rfl)⟩; omega)
  have hw2 : IntKind.i64.wrap ((w : Int) * (2 : Int)) = ((2 * w : Nat) : Int) := by rw [wrap_i64 (by omega) (by omega)]; omega
  simp -implicitDefEqProofs only [syms, symx, Nat.reduceAdd, Nat.reduceMul, Int.reduceLT, Int.reduceLE, Int.reduceAdd, Int.reduceSub, Int.reduceToNat, Int.reduceNeg, reduceIte, Nat.reduceGT, Nat.reduceLT, Nat.reduceLeDiff, code145_0, code145_1, code145_2, code145_3, ty145, haw]
  repeat' ((first
    | ((with_reducible first | apply forkD | apply forkB | apply forkN | apply forkNP | apply forkNot) <;> intro _)
    | ((with_reducible_and_instances apply unop_not); (· rfl))) <;> simp -implicitDefEqProofs only [syms, symx, Nat.reduceAdd, Nat.reduceMul, Int.reduceLT, Int.reduceLE, Int.reduceAdd, Int.reduceSub, Int.reduceToNat, Int.reduceNeg, reduceIte, Nat.reduceGT, Nat.reduceLT, Nat.reduceLeDiff, code145_0, code145_1, code145_2, code145_3, ty145, haw])
  · have hpa := dbl_parts hdb (by omega) hamod (by omega)
    rw [show min (a + 2 * w) l.length = l.length by omega] at hpa
    have key := fun K hk => symOk l.length l2 A c a (a + w) l.length h (h3'.lay [] h3'.low) (z.upW _ _ (by omega)) hA (q.on _ _) (by omega) (by omega) (by omega) (by omega) (by omega) hlt3 hpa.1 hpa.2 K hk
    simp only [hl2] at key
    refine key _ (fun h' l' x q' hm' hs' => ?_)
    replace z := x
    rw [lay_nil h']
    simp -implicitDefEqProofs only [syms, symx, Nat.reduceAdd, Nat.reduceMul, Int.reduceLT, Int.reduceLE, Int.reduceAdd, Int.reduceSub, Int.reduceToNat, Int.reduceNeg, reduceIte, Nat.reduceGT, Nat.reduceLT, Nat.reduceLeDiff, code145_0, code145_1, code145_2, code145_3, ty145, hw2, bin_mul]
    repeat' ((first
      | ((with_reducible first | apply forkD | apply forkB | apply forkN | apply forkNP | apply forkNot) <;> intro _)
      | ((with_reducible_and_instances apply unop_not); (· rfl))) <;> simp -implicitDefEqProofs only [syms, symx, Nat.reduceAdd, Nat.reduceMul, Int.reduceLT, Int.reduceLE, Int.reduceAdd, Int.reduceSub, Int.reduceToNat, Int.reduceNeg, reduceIte, Nat.reduceGT, Nat.reduceLT, Nat.reduceLeDiff, code145_0, code145_1, code145_2, code145_3, ty145, hw2, bin_mul])
    have hstep := dbl_step (l' := l') hdb (by omega) hamod (by rw [show min (a + 2 * w) l.length = l.length by omega]; exact hs') (by rw [show min (a + 2 * w) l.length = l.length by omega]; exact hm')
    rw [show min (a + 2 * w) l.length = l.length by omega] at hstep
    (rw [hI2]; with_reducible refine loopN_normal (m := _) ?_ ⟨2 * w, l', _, rfl, z, ⟨rfl, by omega, by omega, hm'.perm.trans hp, hst.trans hm'.stab, dbl_all hstep (by omega), q'⟩, junk (by kernel_rfl)⟩; omega)
  · simp -implicitDefEqProofs only [syms, symx, Nat.reduceAdd, Nat.reduceMul, Int.reduceLT, Int.reduceLE, Int.reduceAdd, Int.reduceSub, Int.reduceToNat, Int.reduceNeg, reduceIte, Nat.reduceGT, Nat.reduceLT, Nat.reduceLeDiff, code145_0, code145_1, code145_2, code145_3, ty145, hw2, bin_mul]
    repeat' ((first
      | ((with_reducible first | apply forkD | apply forkB | apply forkN | apply forkNP | apply forkNot) <;> intro _)
      | ((with_reducible_and_instances apply unop_not); (· rfl))) <;> simp -implicitDefEqProofs only [syms, symx, Nat.reduceAdd, Nat.reduceMul, Int.reduceLT, Int.reduceLE, Int.reduceAdd, Int.reduceSub, Int.reduceToNat, Int.reduceNeg, reduceIte, Nat.reduceGT, Nat.reduceLT, Nat.reduceLeDiff, code145_0, code145_1, code145_2, code145_3, ty145, hw2, bin_mul])
    (rw [hI2]; with_reducible refine loopN_normal (m := _) ?_ ⟨2 * w, l2, _, rfl, z, ⟨rfl, by omega, by omega, hp, hst, dbl_end hdb (by omega) hamod (by omega), q⟩, junk (by kernel_rfl)⟩; omega)
theorem ok_sortStable (l : List AtomD) (A c : Nat) (h hs : Heap) (z : Ext h hs) (hA : h.size ≤ A) (q : Holds hs A (.row (rowA l) 39 false)) (hn : l.length ≤ 900) (hlt : ∀ x ∈ l, x.light = true) (K : Value → Heap → Prop)
    (hk : ∀ h' l', Ext h h' → Holds h' A (.row (rowA l') 39 false) → l'.Perm l → Stab l l' → SortedR l' 0 l.length → K undef h') : Ok Try.prog tab ov 90 [.slice (some ⟨A, 0, none⟩) l.length c, .func (.func 43) ⟨[]⟩ ⟨[]⟩] hs K := by
  rw [lay_nil hs]
  refine Ok.into rfl tab_fn90 body90 rfl (m := 7) rfl ?_
  simp -implicitDefEqProofs only [syms, symx, Nat.reduceAdd, Nat.reduceMul, Int.reduceLT, Int.reduceLE, Int.reduceAdd, Int.reduceSub, Int.reduceToNat, Int.reduceNeg, reduceIte, Nat.reduceGT, Nat.reduceLT, Nat.reduceLeDiff, code90_0, ty90]
  repeat' ((first
    | ((with_reducible first | apply forkD | apply forkB | apply forkN | apply forkNP | apply forkNot) <;> intro _)
    | ((with_reducible_and_instances apply unop_not); (· rfl))) <;> simp -implicitDefEqProofs only [syms, symx, Nat.reduceAdd, Nat.reduceMul, Int.reduceLT, Int.reduceLE, Int.reduceAdd, Int.reduceSub, Int.reduceToNat, Int.reduceNeg, reduceIte, Nat.reduceGT, Nat.reduceLT, Nat.reduceLeDiff, code90_0, ty90])
  refine ok_stable l A c h (hs.lay [] hs.low) (z.upW _ _ (by omega)) hA (q.on _ _) hn hlt _ (fun h' l' x q' hp' hst' hs' => ?_)
  rw [lay_nil h']
  simp -implicitDefEqProofs only [syms, symx, Nat.reduceAdd, Nat.reduceMul, Int.reduceLT, Int.reduceLE, Int.reduceAdd, Int.reduceSub, Int.reduceToNat, Int.reduceNeg, reduceIte, Nat.reduceGT, Nat.reduceLT, Nat.reduceLeDiff, code90_0, ty90]
  repeat' ((first
    | ((with_reducible first | apply forkD | apply forkB | apply forkN | apply forkNP | apply forkNot) <;> intro _)
    | ((with_reducible_and_instances apply unop_not); (· rfl))) <;> simp -implicitDefEqProofs only [syms, symx, Nat.reduceAdd, Nat.reduceMul, Int.reduceLT, Int.reduceLE, Int.reduceAdd, Int.reduceSub, Int.reduceToNat, Int.reduceNeg, reduceIte, Nat.reduceGT, Nat.reduceLT, Nat.reduceLeDiff, code90_0, ty90])
  exact hk _ _ (x.upW _ _ (by omega)) (q'.on _ _) hp' hst' hs'
end Go.Proofs.Ytompindebndddaa
